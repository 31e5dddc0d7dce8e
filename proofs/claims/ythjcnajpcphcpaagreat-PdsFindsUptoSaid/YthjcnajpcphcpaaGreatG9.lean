/- Parts of the walk: C24Q C24QA C24R C24S C24WJ R23I C24PC C24VA R31MA. -/
import Derived.Test.YthjcnajpcphcpaaGreatG8
namespace Go.AM
open Go.RowKit Go.Proofs
set_option linter.unusedSimpArgs false
set_option linter.unusedVariables false
set_option maxHeartbeats 8000000
set_option maxRecDepth 20000
theorem reCs_len : ∀ {l : List RE}, (∀ e ∈ l, e.key.length = 8) → (reCs l).length = l.length * 10
 | [], _ => rfl
 | e :: l, h => by
  have h1 : (reC e).length = 10 := zl9 (h e List.mem_cons_self)
  have h2 := reCs_len (fun x hx => h x (List.mem_cons_of_mem _ hx))
  simp only [reCs, List.map_cons, List.flatten_cons, List.length_append, h1, List.length_cons] at h2 ⊢
  omega
theorem reCs_app (a b : List RE) : reCs (a ++ b) = reCs a ++ reCs b := by simp [reCs]
theorem reCs_cons (a : RE) (b : List RE) : reCs (a :: b) = reC a ++ reCs b := by simp [reCs]
theorem reCs_take {l : List RE} (h : ∀ e ∈ l, e.key.length = 8) (i : Nat) : (reCs l).take (i * 10) = reCs (l.take i) := by
 rcases Nat.lt_or_ge i l.length with hi | hi
 ·conv => lhs; rw [← List.take_append_drop i l]
  rw [reCs_app, List.take_left' (by rw [reCs_len (fun e he => h e (List.mem_of_mem_take he)), List.length_take, Nat.min_eq_left (by omega)])]
 ·rw [List.take_of_length_le (by rw [reCs_len h]; omega), List.take_of_length_le hi]
theorem reCs_drop {l : List RE} (h : ∀ e ∈ l, e.key.length = 8) (i : Nat) : (reCs l).drop (i * 10) = reCs (l.drop i) := by
 rcases Nat.lt_or_ge i l.length with hi | hi
 ·conv => lhs; rw [← List.take_append_drop i l]
  rw [reCs_app, List.drop_left' (by rw [reCs_len (fun e he => h e (List.mem_of_mem_take he)), List.length_take, Nat.min_eq_left (by omega)])]
 ·rw [List.drop_eq_nil_of_le (by rw [reCs_len h]; omega), List.drop_eq_nil_of_le hi]
  rfl
theorem vals_reCs (l : List RE) : vals (reCs l) := by
 intro y h
 obtain ⟨x, hx, hy⟩ := List.mem_flatten.1 h
 obtain ⟨e, _, rfl⟩ := List.mem_map.1 hx
 exact vq9 e y hy
structure EntC (cs : List AV) (cap : Nat) (l : List RE) : Prop where
 n : l.length ≤ cap
 mx : cap ≤ maxLen
 len : cs.length = cap * 10
 v : vals cs
 c : cs.take (l.length * 10) = reCs l
theorem EntC.cells {cs : List AV} {cap : Nat} {l : List RE} (h : EntC cs cap l) (h8 : ∀ e ∈ l, e.key.length = 8) : CellsRE cs l := by
 intro i e he
 have hi := (List.getElem?_eq_some_iff.1 he).1
 have h1 := h.n
 have h2 := h.len
 refine ⟨by omega, ?_⟩
 have h3 : ((cs.take (l.length * 10)).drop (i * 10)).take 10 = (cs.drop (i * 10)).take 10 := by
  rw [List.drop_take, List.take_take, Nat.min_eq_left (by omega)]
 rw [← h3, h.c, reCs_drop h8, List.drop_eq_getElem_cons hi, (List.getElem?_eq_some_iff.1 he).2, reCs_cons, List.take_left' (zl9 (h8 e (List.mem_of_getElem? he)))]
theorem EntC.ins {cs cs' : List AV} {cap cap' i : Nat} {l : List RE} {x : RE} (h : EntC cs cap l) (h8 : ∀ e ∈ l, e.key.length = 8) (hi : i ≤ l.length) (h1 : l.length + 1 ≤ cap') (h2 : cap' ≤ maxLen) (h3 : cs'.length = cap' * 10) (h4 : vals cs')
  (h5 : cs'.take ((l.length + 1) * 10) = insCs cs l.length i (reC x)) : EntC cs' cap' (l.take i ++ x :: l.drop i) := by
 have hL : (l.take i ++ x :: l.drop i).length = l.length + 1 := by simp; omega
 refine ⟨by rw [hL]; exact h1, h2, h3, h4, ?_⟩
 rw [hL, h5, insCs, h.c, reCs_drop h8, reCs_app, reCs_cons]
 congr 1
 have : cs.take (i * 10) = (cs.take (l.length * 10)).take (i * 10) := by rw [List.take_take, Nat.min_eq_left (by omega)]
 rw [this, h.c, reCs_take h8]
theorem EntC.set {cs : List AV} {cap i : Nat} {l : List RE} {x : RE} (h : EntC cs cap l) (h8 : ∀ e ∈ l, e.key.length = 8) (hi : i < l.length) (hx : x.key.length = 8) : EntC (yg9 cs (i * 10) (reC x)) cap (l.take i ++ x :: l.drop (i + 1)) := by
 have hL : (l.take i ++ x :: l.drop (i + 1)).length = l.length := by simp; omega
 have hn := h.n
 have hlen := h.len
 have hxl : (reC x).length = 10 := zl9 hx
 have hfit : i * 10 + (reC x).length ≤ cs.length := by omega
 refine ⟨by rw [hL]; exact hn, h.mx, by rw [zs9 _ _ _ hfit]; exact hlen, vals_seg h.v (vq9 x) _, ?_⟩
 have hA : (cs.take (i * 10)).length = i * 10 := by rw [List.length_take]; omega
 have e1 : cs.take (i * 10) = reCs (l.take i) := by
  have : cs.take (i * 10) = (cs.take (l.length * 10)).take (i * 10) := by rw [List.take_take, Nat.min_eq_left (by omega)]
  rw [this, h.c, reCs_take h8]
 have e2 : (cs.drop (i * 10 + 10)).take ((l.length - (i + 1)) * 10) = reCs (l.drop (i + 1)) := by
  rw [← reCs_drop h8, ← h.c, List.drop_take, show i * 10 + 10 = (i + 1) * 10 by omega]
  congr 1
  omega
 have key : ∀ (A X R : List AV), A.length = i * 10 → X.length = 10 → (A ++ (X ++ R)).take (l.length * 10) = A ++ (X ++ R.take ((l.length - (i + 1)) * 10)) := by
  intro A X R h1 h2
  have z1 : A.take (l.length * 10) = A := List.take_of_length_le (by omega)
  have z2 : X.take (l.length * 10 - i * 10) = X := List.take_of_length_le (by omega)
  rw [List.take_append, z1, h1, List.take_append, z2, h2, show l.length * 10 - i * 10 - 10 = (l.length - (i + 1)) * 10 by omega]
 rw [hL, yg9, hxl, List.append_assoc, key _ _ _ hA hxl, e1, e2, reCs_app, reCs_cons]
theorem EntC.new {cs : List AV} {cap : Nat} {x : RE} (h1 : 1 ≤ cap) (h2 : cap ≤ maxLen) (h3 : cs.length = cap * 10) (h4 : vals cs) (h5 : cs.take 10 = reC x) : EntC cs cap [x] := ⟨h1, h2, h3, h4, by rw [show ([x] : List RE).length * 10 = 10 from rfl, h5]; simp [reCs]⟩
def WithQ (H : List AObj) (id dir : Nat) (l : List RE) (r : AV) (h' : List AObj) : Prop :=
 ∃ cap' cs', EntC cs' cap' l ∧ ((r = .agg [.arr id 0 l.length cap', .v (.int .i64 (dir : Nat))] ∧ h' = H.set id (.cells 78 cs')) ∨
  (∃ g0 g1 g2 g3 g4, (∀ o ∈ [g0, g1, g2, g3, g4], o.under (H.length + 6) = true) ∧ r = .agg [.arr (H.length + 5) 0 l.length cap', .v (.int .i64 (dir : Nat))] ∧ h' = H ++ [g0, g1, g2, g3, g4, .cells 78 cs']))
theorem with_callW (l : List RE) (dir trk rn : Nat) (s : List UInt8) (hs : symM s = true) (hp : l.Pairwise ltE) (h8 : ∀ e ∈ l, e.key.length = 8) (hl : l.length ≤ 100000000)
  (H : List AObj) (hh : yb9 H.length H = true) (id cap : Nat) (cs : List AV) (hid : H[id]? = some (.cells 78 cs)) (hE : EntC cs cap l) :
  xm9 Tryz.prog 39 [.agg [.arr id 0 l.length cap, .v (.int .i64 (dir : Nat))], strB s, .agg [.v (.int .i64 (trk : Nat)), .v (.int .i64 (rn : Nat))]] H (WithQ H id dir (insE l ⟨padK s, trk, rn⟩)) := by
 obtain ⟨ha, h1, h8s⟩ := uj9 hs
 have hkl : (padK s).length = 8 := yh8 h8s
 have hidl : id < H.length := (List.getElem?_eq_some_iff.1 hid).1
 obtain ⟨G, hG⟩ : ∃ G, G = [AObj.cells 70 [.arr id 0 l.length cap, .v (.int .i64 (dir : Nat))], .cells 55 [.v (.int .i64 (trk : Nat)), .v (.int .i64 (rn : Nat))], .cells 70 [.lst .nil 10 [], .v (.int .i64 0)]] := ⟨_, rfl⟩
 have hid2 : (H ++ G)[id]? = some (.cells 78 cs) := by rw [List.getElem?_append_left hidl]; exact hid
 have hf := find_callW l dir s (by omega) hp h8 (by omega) (H ++ G) id cap cs hid2 (hE.cells h8) (by
  rw [hG, zn9]
  simp [yb9, AObj.under, AV.under, AV.underL]
  exact ⟨wp9 (by omega) _ hh, by omega⟩)
 have hk := xm8 s hs
 obtain ⟨S, hS⟩ : ∃ S, strB s = S := ⟨_, rfl⟩
 have hSv : ∃ u, S = .v u := ⟨_, hS.symm⟩
 rw [hS] at hf hk ⊢
 obtain ⟨u, rfl⟩ := hSv
 rw [findR, if_pos hs] at hf
 obtain ⟨x, hx⟩ : ∃ x : RE, (⟨padK s, trk, rn⟩ : RE) = x := ⟨_, rfl⟩
 have hxk : x.key = padK s := by rw [← hx]
 have hx8 : x.key.length = 8 := by rw [hxk]; exact hkl
 have hxc : byL (padK s) ++ [.v (.int .i64 (trk : Nat)), .v (.int .i64 (rn : Nat))] = reC x := by rw [← hx]; rfl
 have hpl := posE_le l (padK s)
 rw [hx, insE, hxk]
 obtain ⟨i, hi⟩ : ∃ i, posE l (padK s) = i := ⟨_, rfl⟩
 have hfl : fndE l (padK s) = true → i < l.length := by
  intro h
  rw [fndE, hi] at h
  cases h0 : l[i]? with
  | none => rw [h0] at h; cases h
  | some e => exact (List.getElem?_eq_some_iff.1 h0).1
 obtain ⟨K, hK⟩ : ∃ K, padK s = K := ⟨_, rfl⟩
 rw [hK] at hfl hxc hk hkl hi
 rw [hK, hi] at hf hpl ⊢
 obtain ⟨B, hB⟩ : ∃ B, fndE l K = B := ⟨_, rfl⟩
 rw [hB] at hf hfl ⊢
 refine zf9 Tryz.func39 rfl (by decide +kernel) (by simp [Tryz.f39]) (rs := [.cell 6 70]) rfl ?_
 rw [show Tryz.f39.ntmps = 34 from rfl]
 refine yr9 [1, 3, 5, 6] (by simp; rfl) ?_
 refine W_rK [1, 3, 5, 6, 7, 8] ?_
 refine yq9 2 (by simp; rfl) rfl ?_
 rw [hG] at hf
 refine zm9 (f := 31) (args := [.agg [.arr id 0 l.length cap, .v (.int .i64 (dir : Nat))], .v u]) (by simp) (by simp [xn9, zc9]) (hf.mono ?_)
 rintro r h' ⟨rfl, rfl⟩
 refine ⟨_, by simp; rfl, ?_⟩
 refine yw9 (by simp; rfl) ?_
 have htx : (reC x).take 10 = reC x := List.take_of_length_le (by rw [zl9 hx8]; omega)
 refine W_rsK 5 [1, 3, 5, 6, 7, 8, 9] mx (by decide +kernel) ?_
 refine yp9 1 (by simp; rfl) rfl ?_
 refine yv9 (by simp) (by first | (simp; done) | (simp; rfl)) hk (by simp; rfl) ?_
 have hdd : List.drop 10 (byL K ++ [AV.v (Value.int IntKind.i64 0), AV.v (Value.int IntKind.i64 0)]) = [] := List.drop_eq_nil_of_le (by simp [hkl])
 refine yp9 2 (by simp [yg9, hkl, hdd, hxc]; rfl) rfl ?_
 refine yn9 (by simp; rfl) ?_
 have hxl : (reC x).length = 10 := zl9 hx8
 refine yw9 (by simp [yg9, hxl]; rfl) ?_
 refine yh9 ?_
 cases B with
 | true =>
  have hil := hfl rfl
  have hili : (i : Int) < (l.length : Nat) := by omega
  have hlc := hE.n
  have hcl := hE.len
  refine W_cT [1, 3, 5, 6, 7, 8, 9, 20] (by simp; rfl) rfl ?_
  have hfit : i * 10 + (reC x).length ≤ cs.length := by omega
  have hfit2 : i * 10 + 10 ≤ cs.length := by omega
  refine zp9 [3, 6] (by simp [hil, hili, List.getElem?_append_left hidl, hid, htx, hxl, List.set_append_left _ _ hidl, hfit2]; rfl) ?_
  repeat (first | refine on_norm ?_ | refine in_norm ?_)
  have hL : (l.take i ++ x :: l.drop (i + 1)).length = l.length := by simp; omega
  have hset := hE.set h8 hil hx8
  rw [if_pos rfl]
  obtain ⟨C, hC⟩ : ∃ C, yg9 cs (i * 10) (reC x) = C := ⟨_, rfl⟩
  rw [hC] at hset ⊢
  refine yr9 [6] (by simp [yg9]; rfl) ?_
  refine yk9 ?_
  repeat (first | refine ys9 ?_ | refine yd9 ?_)
  refine ⟨.inr rfl, .agg [.arr id 0 l.length cap, .v (.int .i64 (dir : Nat))], _, _, H.length, by simp, .inl ⟨rfl, rfl⟩, Nat.le_refl _, by simp, by simp [AV.under, AV.underL, hidl], ?_, ⟨cap, _, hset, .inl ⟨by rw [hL], ?_⟩⟩⟩
  ·simp only [List.take_left' (show (H.set id (AObj.cells 78 C)).length = H.length by simp)]
   exact wb9 hh (wq9 hset.v)
  ·simp only [List.take_left' (show (H.set id (AObj.cells 78 C)).length = H.length by simp)]
 | false =>
  rw [show (if false = true then 1 else 0 : Nat) = 0 from rfl, Nat.add_zero]
  refine W_cF [1, 3, 5, 6, 7, 8, 9, 20] (by simp; rfl) rfl ?_
  refine W_rE [3, 6] ?_
  refine yq9 4 (by simp [htx, hxl]; rfl) rfl ?_
  refine zg8 (by simp) ⟨_, by simp [jl9, evBsO, catK, AV.cellsK, AV.kone, AV.koneL, hxl]; rfl, ?_⟩
  obtain ⟨G4, hG4⟩ : ∃ G4, G4 = [AObj.cells 70 [.arr id 0 l.length cap, .v (.int .i64 (dir : Nat))], .cells 55 [.v (.int .i64 (trk : Nat)), .v (.int .i64 (rn : Nat))], .cells 70 [.lst .nil 10 [], .v (.int .i64 0)], .cells 78 (reC x), .cells 78 (reC x)] := ⟨_, rfl⟩
  have hid4 : (H ++ G4)[id]? = some (.cells 78 cs) := by rw [List.getElem?_append_left hidl]; exact hid
  have hins := insert_callW x hx8 cs i l.length cap hpl hE.n hE.mx hE.len hE.v (by omega) (H ++ G4) (by
   rw [hG4, zn9]
   simp [yb9, AObj.under, AV.under, AV.underL]
   exact ⟨wp9 (by omega) _ hh, by omega⟩) id (H.length + 4) hid4 (by rw [hG4]; simp) (by omega)
  rw [hG4] at hins
  refine zm9 (f := 82) (args := [.arr id 0 l.length cap, .v (.int .i64 (i : Nat)), .arr (H.length + 4) 0 1 1]) (by simp) (by simp [xn9, zc9]) (hins.mono ?_)
  rintro r h' ⟨cap', cs', g1, g2, g3, g4, g5, (⟨rfl, rfl⟩ | ⟨rfl, rfl⟩)⟩
  ·refine ⟨_, by simp; rfl, ?_⟩
   refine yw9 (by simp [List.set_append_left _ _ hidl, yg9]; rfl) ?_
   repeat (first | refine on_norm ?_ | refine in_norm ?_)
   have hent := hE.ins h8 hpl g1 g2 g3 g4 g5
   have hL : (l.take i ++ x :: l.drop i).length = l.length + 1 := by simp; omega
   refine yr9 [6] (by simp [yg9]; rfl) ?_
   refine yk9 ?_
   repeat (first | refine ys9 ?_ | refine yd9 ?_)
   refine ⟨.inr rfl, .agg [.arr id 0 (l.length + 1) cap', .v (.int .i64 (dir : Nat))], _, _, H.length, by simp, .inl ⟨rfl, rfl⟩, Nat.le_refl _, by simp, by simp [AV.under, AV.underL, hidl], ?_, ⟨cap', _, hent, .inl ⟨by rw [hL], ?_⟩⟩⟩
   ·simp only [List.take_left' (show (H.set id (AObj.cells 78 cs')).length = H.length by simp)]
    exact wb9 hh (wq9 g4)
   ·simp only [List.take_left' (show (H.set id (AObj.cells 78 cs')).length = H.length by simp)]
  ·refine ⟨_, by simp; rfl, ?_⟩
   refine yw9 (by simp [yg9]; rfl) ?_
   repeat (first | refine on_norm ?_ | refine in_norm ?_)
   have hent := hE.ins h8 hpl g1 g2 g3 g4 g5
   have hL : (l.take i ++ x :: l.drop i).length = l.length + 1 := by simp; omega
   refine yr9 [6] (by simp [yg9]; rfl) ?_
   refine yk9 ?_
   repeat (first | refine ys9 ?_ | refine yd9 ?_)
   refine ⟨.inr rfl, .agg [.arr (H.length + 5) 0 (l.length + 1) cap', .v (.int .i64 (dir : Nat))], _, _, H.length + 6, by simp, .inl ⟨rfl, rfl⟩, by omega, by simp, by simp [AV.under, AV.underL], ?_, ⟨cap', cs', hent, .inr ⟨AObj.cells 70 [.arr (H.length + 5) 0 (l.length + 1) cap', .v (.int .i64 (dir : Nat))], .cells 55 [.v (.int .i64 (trk : Nat)), .v (.int .i64 (rn : Nat))], AObj.cells 70 [.arr (H.length + 5) 0 (l.length + 1) cap', .v (.int .i64 (dir : Nat))], .cells 78 (reC x), .cells 78 (reC x), ?_, by rw [hL], ?_⟩⟩⟩
   ·rw [List.take_of_length_le (by simp), zn9, wp9 (by omega) _ hh]
    simp [yb9, AObj.under, AV.under, AV.underL, wq9 g4]
    try omega
   ·intro o ho
    simp only [List.mem_cons, List.not_mem_nil, or_false] at ho
    rcases ho with rfl | rfl | rfl | rfl | rfl <;> simp [AObj.under, AV.under, AV.underL, wq9 (vq9 x)]
   ·rw [List.take_of_length_le (by simp)]
end Go.AM
namespace Go.AM
open Go.RowKit Go.Proofs
set_option linter.unusedSimpArgs false
set_option linter.unusedVariables false
set_option maxHeartbeats 8000000
set_option maxRecDepth 20000
def WithN (H : List AObj) (dir : Nat) (x : RE) (r : AV) (h' : List AObj) : Prop :=
 ∃ cap' cs', EntC cs' cap' [x] ∧ ∃ g0 g1 g2 g3 g4, (∀ o ∈ [g0, g1, g2, g3, g4], o.under (H.length + 6) = true) ∧ r = .agg [.arr (H.length + 5) 0 1 cap', .v (.int .i64 (dir : Nat))] ∧ h' = H ++ [g0, g1, g2, g3, g4, .cells 78 cs']
theorem with_nil_callW (dir trk rn : Nat) (s : List UInt8) (hs : symM s = true) (H : List AObj) (hh : yb9 H.length H = true) :
  xm9 Tryz.prog 39 [.agg [.lst .nil 10 [], .v (.int .i64 (dir : Nat))], strB s, .agg [.v (.int .i64 (trk : Nat)), .v (.int .i64 (rn : Nat))]] H (WithN H dir ⟨padK s, trk, rn⟩) := by
 obtain ⟨ha, h1, h8s⟩ := uj9 hs
 have hkl : (padK s).length = 8 := yh8 h8s
 have hf := find_sound [] dir s (by omega) .nil (by simp) (by simp)
 have hk := xm8 s hs
 obtain ⟨S, hS⟩ : ∃ S, strB s = S := ⟨_, rfl⟩
 have hSv : ∃ u, S = .v u := ⟨_, hS.symm⟩
 rw [hS] at hf hk ⊢
 obtain ⟨u, rfl⟩ := hSv
 rw [findR, if_pos hs] at hf
 obtain ⟨x, hx⟩ : ∃ x : RE, (⟨padK s, trk, rn⟩ : RE) = x := ⟨_, rfl⟩
 have hxk : x.key = padK s := by rw [← hx]
 have hx8 : x.key.length = 8 := by rw [hxk]; exact hkl
 have hxc : byL (padK s) ++ [.v (.int .i64 (trk : Nat)), .v (.int .i64 (rn : Nat))] = reC x := by rw [← hx]; rfl
 rw [hx]
 rw [show posE [] (padK s) = 0 from rfl, show fndE [] (padK s) = false from rfl] at hf
 obtain ⟨K, hK⟩ : ∃ K, padK s = K := ⟨_, rfl⟩
 rw [hK] at hxc hk hkl
 refine zf9 Tryz.func39 rfl (by decide +kernel) (by simp [Tryz.f39]) (rs := [.cell 6 70]) rfl ?_
 rw [show Tryz.f39.ntmps = 34 from rfl]
 refine yr9 [1, 3, 5, 6] (by simp; rfl) ?_
 refine W_rK [1, 3, 5, 6, 7, 8] ?_
 refine yq9 2 (by simp; rfl) rfl ?_
 refine yf9 (by simp) (by first | (simp; done) | (simp; rfl)) hf (by simp; rfl) ?_
 refine yw9 (by simp; rfl) ?_
 have htx : (reC x).take 10 = reC x := List.take_of_length_le (by rw [zl9 hx8]; omega)
 refine W_rsK 5 [1, 3, 5, 6, 7, 8, 9] mx (by decide +kernel) ?_
 refine yp9 1 (by simp; rfl) rfl ?_
 refine yv9 (by simp) (by first | (simp; done) | (simp; rfl)) hk (by simp; rfl) ?_
 have hdd : List.drop 10 (byL K ++ [AV.v (Value.int IntKind.i64 0), AV.v (Value.int IntKind.i64 0)]) = [] := List.drop_eq_nil_of_le (by simp [hkl])
 refine yp9 2 (by simp [yg9, hkl, hdd, hxc]; rfl) rfl ?_
 refine yn9 (by simp; rfl) ?_
 have hxl : (reC x).length = 10 := zl9 hx8
 refine yw9 (by simp [yg9, hxl]; rfl) ?_
 refine yh9 ?_
 refine W_cF [1, 3, 5, 6, 7, 8, 9, 20] (by simp; rfl) rfl ?_
 refine W_rE [3, 6] ?_
 refine yq9 4 (by simp [htx, hxl]; rfl) rfl ?_
 refine zg8 (by simp) ⟨_, by simp [jl9, evBsO, catK, AV.cellsK, AV.kone, AV.koneL, hxl]; rfl, ?_⟩
 have hins := insert_nil_callW x hx8 (H ++ [AObj.cells 70 [.lst .nil 10 [], .v (.int .i64 (dir : Nat))], .cells 55 [.v (.int .i64 (trk : Nat)), .v (.int .i64 (rn : Nat))], .cells 70 [.lst .nil 10 [], .v (.int .i64 0)], .cells 78 (reC x), .cells 78 (reC x)]) (by
  rw [zn9]
  simp [yb9, AObj.under, AV.under, AV.underL]
  exact wp9 (by omega) _ hh) (H.length + 4) (by simp)
 refine zm9 (f := 82) (args := [.lst .nil 10 [], .v (.int .i64 0), .arr (H.length + 4) 0 1 1]) (by simp) (by simp [xn9, zc9]) (hins.mono ?_)
 rintro r h' ⟨cap', cs', g1, g2, g3, g4, g5, rfl, rfl⟩
 refine ⟨_, by simp; rfl, ?_⟩
 refine yw9 (by simp [yg9]; rfl) ?_
 repeat (first | refine on_norm ?_ | refine in_norm ?_)
 have hent := EntC.new g1 g2 g3 g4 g5
 refine yr9 [6] (by simp [yg9]; rfl) ?_
 refine yk9 ?_
 repeat (first | refine ys9 ?_ | refine yd9 ?_)
 refine ⟨.inr rfl, .agg [.arr (H.length + 5) 0 1 cap', .v (.int .i64 (dir : Nat))], _, _, H.length + 6, by simp, .inl ⟨rfl, rfl⟩, by omega, by simp, by simp [AV.under, AV.underL], ?_, ⟨cap', cs', hent, AObj.cells 70 [.arr (H.length + 5) 0 1 cap', .v (.int .i64 (dir : Nat))], .cells 55 [.v (.int .i64 (trk : Nat)), .v (.int .i64 (rn : Nat))], AObj.cells 70 [.arr (H.length + 5) 0 1 cap', .v (.int .i64 (dir : Nat))], .cells 78 (reC x), .cells 78 (reC x), ?_, rfl, ?_⟩⟩
 ·rw [List.take_of_length_le (by simp), zn9, wp9 (by omega) _ hh]
  simp [yb9, AObj.under, AV.under, AV.underL, wq9 g4]
 ·intro o ho
  simp only [List.mem_cons, List.not_mem_nil, or_false] at ho
  rcases ho with rfl | rfl | rfl | rfl | rfl <;> simp [AObj.under, AV.under, AV.underL, wq9 (vq9 x)]
 ·rw [List.take_of_length_le (by simp)]
end Go.AM
namespace Go.AM
open Go.RowKit Go.Proofs
set_option linter.unusedSimpArgs false
set_option linter.unusedVariables false
set_option maxHeartbeats 8000000
set_option maxRecDepth 20000
theorem rclone_sound (l : List (List UInt8)) (hl : l.length ≤ 1000000000) : Sound Tryz.prog 79 [.lst .any 1 (bbL l)] (.lst (.tip 90 1) 1 (bbL l)) := by
 refine ww9 Tryz.func79 rfl (by decide +kernel) (by simp [Tryz.f79]) rfl rfl (rs := [.tmp 2]) rfl ?_
 rw [show Tryz.f79.ntmps = 8 from rfl]
 have hb : l.length * 24 ≤ 140737488355328 := by omega
 have hb2 : 24 * l.length ≤ 140737488355328 := by omega
 refine yr9 [0] (by simp; rfl) ?_
 refine yh9 ?_
 cases l with
 | cons x l =>
  refine W_cF [0, 4] (by simp [yn8]; rfl) rfl ?_
  refine yj9 ?_
  rw [← yn8]
  refine yr9 [2] (by simp at hb hb2; simp [hb, hb2]; rfl) ?_
  refine yk9 ?_
  repeat (first | refine ys9 ?_ | refine yd9 ?_)
  exact ⟨_, by simp [retQ]; exact ⟨rfl, by simp⟩, .norm fun T => by simp⟩
 | nil =>
  refine W_nilCases 0 (sz := 1) rfl ?_ fun ad cap hc => ?_
  ·refine W_cT [0, 4] (by simp [putF]; rfl) rfl ?_
   refine yr9 [2] (by simp; rfl) ?_
   refine yk9 ?_
   repeat (first | refine ys9 ?_ | refine yd9 ?_)
   exact ⟨.lst .nil 1 [], by simp [retQ], .nil (by decide +kernel)⟩
  ·refine W_cF [0, 4] (by simp [putF]; rfl) rfl ?_
   refine yj9 ?_
   refine ym9 [0] ?_
   refine W_unnil 0 1 (by simp; rfl) hc ?_
   refine yr9 [2] (by simp [putF]; rfl) ?_
   refine yk9 ?_
   repeat (first | refine ys9 ?_ | refine yd9 ?_)
   exact ⟨_, by simp [retQ]; exact ⟨rfl, by simp⟩, .norm fun T => by simp⟩
end Go.AM
namespace Go.AM
open Go.RowKit Go.Proofs
set_option linter.unusedSimpArgs false
set_option linter.unusedVariables false
set_option maxHeartbeats 8000000
set_option maxRecDepth 20000
theorem readP_some {t : List (List Rec)} {L : List RE} {n : Nat} (h : kg9 t = some (L, n)) : qw9 t = (L, n, true) := by
 unfold kg9 at h
 split at h
 ·rename_i hc
  obtain ⟨c1, c2, c3, c4, c5, c6⟩ := hc
  simp only [Option.some.injEq, Prod.mk.injEq] at h
  obtain ⟨rfl, rfl⟩ := h
  have hok : qj9 t = true := by
   rw [qj9, decide_eq_true c1, decide_eq_true c2, decide_eq_true c3, decide_eq_true c4, c5]
   rfl
  rw [qw9, hok, if_pos rfl, decide_eq_true c6]
 ·cases h
theorem readP_none {t : List (List Rec)} (h : kg9 t = none) : (qw9 t).2.2 = false := by
 unfold kg9 at h
 split at h
 ·cases h
 ·rename_i hc
  unfold qw9
  split
  ·rename_i hok
   simp only [qj9, Bool.and_eq_true, decide_eq_true_eq] at hok
   obtain ⟨c1, c2, c3, c4, c5⟩ := hok
   exact decide_eq_false fun c6 => hc ⟨c1, c2, c3, c4, c5, c6⟩
  ·rfl
structure TIn (t : List (List Rec)) : Prop where
 n : t.length ≤ 100000000
 rows : ∀ l ∈ t, l.length ≤ 100000000
 f : (dirT t).flatten.length ≤ 40000000
 d : ∀ l ∈ t, ∀ r ∈ l, r.key.length ≤ 1000000000 ∧ r.data.length ≤ 1000000000
theorem xl8 {t : List (List Rec)} (ht : TIn t) : Sound Tryz.prog 29 [.lst .any 1 (arL t)] (.tup [.agg [.lst .any 10 (reL (qw9 t).1), .v (.int .i64 ((qw9 t).2.1 : Nat))], .v (.bool (qw9 t).2.2)]) := by
 have := (read_sound t ht.n ht.rows ht.f (fun l hl r hr => (ht.d l hl r hr).2)).weakR
 simpa using this
def dirM (t : List (List Rec)) : Nat := match kg9 t with | some (_, n) => n | none => 0
theorem Dir_sound {t : List (List Rec)} (ht : TIn t) : Sound Tryz.prog 21 [.lst .any 1 (arL t)] (.v (.int .i64 (dirM t : Nat))) := by
 refine yc9 Tryz.func21 rfl (by decide +kernel) (by simp [Tryz.f21]) (by simp [AV.rfL, AV.rf]) (by simp [AV.tlL, AV.tl]) (rs := [.tmp 2]) rfl ?_
 rw [show Tryz.f21.ntmps = 14 from rfl]
 have hr := xl8 ht
 refine yr9 [0, 2] (by simp; rfl) ?_
 cases he : kg9 t with
 | none =>
  rw [readP_none he] at hr
  obtain ⟨p, hp⟩ : ∃ p, qw9 t = p := ⟨_, rfl⟩
  rw [hp] at hr
  refine W_rK [2, 3, 4] ?_
  refine yq9 1 (by simp; rfl) rfl ?_
  refine yf9 (by simp) (by first | (simp; done) | (simp; rfl)) hr (by simp; rfl) ?_
  refine yw9 (by simp [yg9]; rfl) ?_
  refine yh9 ?_
  refine W_cT [15, 11] (by simp; rfl) rfl ?_
  refine yr9 [2] (by simp; rfl) ?_
  refine yk9 ?_
  repeat (first | refine ys9 ?_ | refine yd9 ?_)
  simp [retQ, dirM, he]
 | some p =>
  obtain ⟨L, n⟩ := p
  rw [readP_some he] at hr
  refine W_rK [2, 3, 4] ?_
  refine yq9 1 (by simp; rfl) rfl ?_
  refine yf9 (by simp) (by first | (simp; done) | (simp; rfl)) hr (by simp; rfl) ?_
  refine yw9 (by simp [yg9]; rfl) ?_
  refine yh9 ?_
  refine W_cF [3, 11] (by simp; rfl) rfl ?_
  refine yj9 ?_
  refine yr9 [2] (by simp; rfl) ?_
  refine yk9 ?_
  repeat (first | refine ys9 ?_ | refine yd9 ?_)
  simp [retQ, dirM, he]
def ww8 (t : List (List Rec)) (s : List UInt8) : Option RE := match kg9 t with | some (L, _) => if symM s then findE L (padK s) else none | none => none
def placeA (o : Option RE) : AV := match o with | some e => .agg [.v (.int .i64 (e.trk : Nat)), .v (.int .i64 (e.rn : Nat))] | none => .agg [.v (.int .i64 0), .v (.int .i64 0)]
theorem read_len {t : List (List Rec)} {L : List RE} {n : Nat} (h : kg9 t = some (L, n)) : L.length ≤ 1344 ∧ n ≤ 64 ∧ (∀ e ∈ L, e.key.length = 8) ∧ L.Pairwise ltE := by
 have ho := read_inv h
 have h1 := ho.len
 have h2 := ho.n64
 exact ⟨by omega, h2, fun e he => (ho.ok e he).1, (ordE_iff.1 ho.ord).2⟩
theorem Find_sound {t : List (List Rec)} (ht : TIn t) (s : List UInt8) (hs : s.length ≤ 1000000000) : Sound Tryz.prog 19 [.lst .any 1 (arL t), strB s] (.tup [placeA (ww8 t s), .v (.bool (ww8 t s).isSome)]) := by
 refine yc9 Tryz.func19 rfl (by decide +kernel) (by simp [Tryz.f19]) (by simp [AV.rfL, AV.rf, strB]) (by simp [AV.tlL, AV.tl, strB]) (rs := [.cell 4 55, .tmp 5]) rfl ?_
 rw [show Tryz.f19.ntmps = 30 from rfl]
 have hr := xl8 ht
 refine yr9 [0, 1, 4, 5] (by simp; rfl) ?_
 cases he : kg9 t with
 | none =>
  rw [readP_none he] at hr
  obtain ⟨p, hp⟩ : ∃ p, qw9 t = p := ⟨_, rfl⟩
  rw [hp] at hr
  simp only [strB]
  refine yh9 ?_
  refine W_rK [1, 4, 5, 6, 7] ?_
  refine yq9 1 (by simp; rfl) rfl ?_
  refine yf9 (by simp) (by first | (simp; done) | (simp; rfl)) hr (by simp; rfl) ?_
  refine yw9 (by simp [yg9]; rfl) ?_
  refine W_cF [1, 4, 15] (by simp; rfl) rfl ?_
  refine yj9 ?_
  repeat (first | refine on_norm ?_ | refine in_norm ?_)
  refine yr9 [4, 5] (by simp [yg9]; rfl) ?_
  refine yk9 ?_
  repeat (first | refine ys9 ?_ | refine yd9 ?_)
  simp [retQ, ww8, he, placeA]
 | some p =>
  obtain ⟨L, n⟩ := p
  rw [readP_some he] at hr
  obtain ⟨hLl, hn, h8, hpw⟩ := read_len he
  have hf := find_sound L n s hs hpw h8 (by omega)
  obtain ⟨S, hS⟩ : ∃ S, strB s = S := ⟨_, rfl⟩
  have hSv : ∃ u, S = .v u := ⟨_, hS.symm⟩
  rw [hS] at hf ⊢
  obtain ⟨u, rfl⟩ := hSv
  have hres : (findR L s).2 = (ww8 t s).isSome ∧ ∀ e, ww8 t s = some e → L[(findR L s).1]? = some e := by
   rw [ww8, he, findR]
   simp only
   split
   ·rw [find_pos hpw]
    unfold fndE
    cases h0 : L[posE L (padK s)]? with
    | none => simp
    | some e =>
     by_cases hk : e.key == padK s
     ·simp only [hk, if_true]
      exact ⟨rfl, fun e' he' => he'⟩
     ·simp [hk]
   ·simp
  obtain ⟨r1, r2⟩ := hres
  rw [r1] at hf
  obtain ⟨i, hi⟩ : ∃ i, (findR L s).1 = i := ⟨_, rfl⟩
  rw [hi] at hf r2
  refine yh9 ?_
  refine W_rK [1, 4, 5, 6, 7] ?_
  refine yq9 1 (by simp; rfl) rfl ?_
  refine yf9 (by simp) (by first | (simp; done) | (simp; rfl)) hr (by simp; rfl) ?_
  refine yw9 (by simp [yg9]; rfl) ?_
  refine W_cT [1, 4, 5, 6, 15] (by simp; rfl) rfl ?_
  refine W_rK [4, 5, 6, 8, 9] ?_
  refine yq9 2 (by simp; rfl) rfl ?_
  refine yf9 (by simp) (by first | (simp; done) | (simp; rfl)) hf (by simp; rfl) ?_
  refine yw9 (by simp; rfl) ?_
  cases hm : ww8 t s with
  | none =>
   refine W_cF [4, 22] (by simp [hm]; rfl) rfl ?_
   refine yj9 ?_
   repeat (first | refine on_norm ?_ | refine in_norm ?_)
   refine yr9 [4, 5] (by simp [yg9]; rfl) ?_
   refine yk9 ?_
   repeat (first | refine ys9 ?_ | refine yd9 ?_)
   simp [retQ, hm, placeA]
  | some e =>
   have hge := r2 e hm
   obtain ⟨hil, hge2⟩ := List.getElem?_eq_some_iff.1 hge
   have hili : (i : Int) < (L.length : Nat) := by omega
   have he8 := h8 e (List.mem_of_getElem? hge)
   have hdr : List.drop 8 (reC e) = [.v (.int .i64 (e.trk : Nat)), .v (.int .i64 (e.rn : Nat))] := by rw [reC, List.drop_left' (by simp [he8])]
   refine W_cT [4, 5, 6, 8, 22] (by simp [hm]; rfl) rfl ?_
   refine yr9 [4, 5] (by simp [hil, hili, hge2, reA, hdr, yg9, zl9 he8]; rfl) ?_
   refine yk9 ?_
   repeat (first | refine ys9 ?_ | refine yd9 ?_)
   simp [retQ, hm, placeA]
def strL (L : List (List UInt8)) : List AV := L.map strB
@[simp] theorem strL_length (L : List (List UInt8)) : (strL L).length = L.length := by simp [strL]
@[simp] theorem dpL_strL (L : List (List UInt8)) : AV.dpL (strL L) = strL L := by induction L <;> simp_all [strL, AV.dpL, AV.dp, strB]
theorem frzL_vals {P : Program} {tk : Nat} (h : List AObj) : ∀ {xs : List AV}, vals xs → frzL P tk h xs = some (xs, h)
 | [], _ => rfl
 | y :: xs, hv => by
  obtain ⟨v, rfl⟩ := hv y List.mem_cons_self
  rw [frzL]
  simp [frzV, frzL_vals h (fun z hz => hv z (List.mem_cons_of_mem _ hz))]
def zl8 (t : List (List Rec)) : List (List UInt8) × Int := match kg9 t with | some (L, _) => (L.map fun e => nmM e.key, 0) | none => ([], 5)
theorem Names_sound {t : List (List Rec)} (ht : TIn t) : Sound Tryz.prog 18 [.lst .any 1 (arL t)] (.tup [.lst (.tip 9 1) 1 (strL (zl8 t).1), .v (.int .i64 (zl8 t).2)]) := by
 refine ww9 Tryz.func18 rfl (by decide +kernel) (by simp [Tryz.f18]) (by simp [AV.rfL, AV.rf]) (by simp [AV.tlL, AV.tl]) (rs := [.tmp 2, .tmp 3]) rfl ?_
 rw [show Tryz.f18.ntmps = 30 from rfl]
 have hr := xl8 ht
 refine yr9 [0, 2, 3] (by simp; rfl) ?_
 cases he : kg9 t with
 | none =>
  rw [readP_none he] at hr
  obtain ⟨p, hp⟩ : ∃ p, qw9 t = p := ⟨_, rfl⟩
  rw [hp] at hr
  refine W_rK [2, 3, 4, 5] ?_
  refine yq9 1 (by simp; rfl) rfl ?_
  refine yf9 (by simp) (by first | (simp; done) | (simp; rfl)) hr (by simp; rfl) ?_
  refine yw9 (by simp [yg9]; rfl) ?_
  refine yh9 ?_
  refine W_cT [15] (by simp; rfl) rfl ?_
  refine yr9 [2, 3] (by simp; rfl) ?_
  refine yk9 ?_
  repeat (first | refine ys9 ?_ | refine yd9 ?_)
  exact ⟨.tup [.lst .nil 1 [], .v (.int .i64 5)], by simp [retQ], by rw [zl8, he]; exact AV.Le.tup2 (AV.Le.nil (by decide +kernel)) (.refl _)⟩
 | some p =>
  obtain ⟨L, n⟩ := p
  rw [readP_some he] at hr
  obtain ⟨hLl, hn, h8, hpw⟩ := read_len he
  refine W_rK [4, 5] ?_
  refine yq9 1 (by simp; rfl) rfl ?_
  refine yf9 (by simp) (by first | (simp; done) | (simp; rfl)) hr (by simp; rfl) ?_
  refine yw9 (by simp [yg9]; rfl) ?_
  refine yh9 ?_
  refine W_cF [4, 15] (by simp; rfl) rfl ?_
  refine yj9 ?_
  repeat (first | refine on_norm ?_ | refine in_norm ?_)
  refine yr9 [4, 6] (by simp; rfl) ?_
  refine yh9 ?_
  refine yr9 [6, 17, 18, 19] (by simp; rfl) ?_
  refine yl9 ?_
  refine zg9 (fun q σ => ∃ (i : Nat) (fo : Fl), q = L.length - i ∧ i ≤ L.length ∧ ((fo = .nil ∧ i = 0) ∨ fo = .tip 9 55) ∧ σ = ⟨30, [(6, .lst fo 1 (strL ((L.take i).map fun e => nmM e.key))), (17, .lst .any 10 (reL L)), (18, .v (.int .i64 (L.length : Nat))), (19, .v (.int .i64 (i : Nat)))], [.cells 70 [.lst .any 10 (reL L), .v (.int .i64 (n : Nat))]]⟩) (k := L.length) ⟨0, .nil, rfl, by omega, .inl ⟨rfl, rfl⟩, by simp [strL]⟩ ?_
  rintro q σ ⟨i, fo, rfl, hi, hfo, rfl⟩
  have hkf : ∀ T : Nat, T ≠ 55 → ∀ xs, (AV.lst fo 1 xs).kill T = .lst fo 1 xs := by
   intro T hT xs
   rcases hfo with ⟨rfl, _⟩ | rfl
   ·simp [AV.kill]
   ·simp [AV.kill, hT.symm]
  by_cases c : i < L.length
  ·have ci : (i : Int) < L.length := by omega
   have wi := w64 (n := (i : Int) + 1) (by omega) (by omega)
   obtain ⟨e, hei⟩ : ∃ e, L[i]? = some e := ⟨_, List.getElem?_eq_getElem c⟩
   have hge : L[i]'c = e := by rw [List.getElem?_eq_getElem c] at hei; exact Option.some.inj hei
   have he8 := h8 e (List.mem_of_getElem? hei)
   have hnm := name_sound e he8
   simp only [reA] at hnm
   have htk10 : List.take 10 (reC e) = reC e := List.take_of_length_le (by rw [zl9 he8]; omega)
   have htk : (L.take (i + 1)).map (fun e => nmM e.key) = (L.take i).map (fun e => nmM e.key) ++ [nmM e.key] := by rw [List.take_add_one, hei]; simp
   have hjl : ((L.take i).map (fun e => nmM e.key)).length = i := by rw [List.length_map, List.length_take]; omega
   obtain ⟨W, hW⟩ : ∃ W, (L.take i).map (fun e => nmM e.key) = W := ⟨_, rfl⟩
   rw [hW] at htk hjl ⊢
   have htl : strL W ++ [strB (nmM e.key)] = strL (W ++ [nmM e.key]) := by simp [strL]
   rw [← htk] at htl
   obtain ⟨S, hS⟩ : ∃ S, strB (nmM e.key) = S := ⟨_, rfl⟩
   have hSv : ∃ u, S = .v u := ⟨_, hS.symm⟩
   rw [hS] at hnm htl
   obtain ⟨u, rfl⟩ := hSv
   have hu1 : u.oneCell' = true := by have h' := hS; simp only [strB, AV.v.injEq] at h'; rw [← h']; rfl
   have b3 : (i + 1) * 16 ≤ 140737488355328 := by omega
   have b4 : 16 * (i + 1) ≤ 140737488355328 := by omega
   refine yr9 [6, 17, 18, 19, 20] (by simp [↓hkf, c, ci]; rfl) ?_
   refine yh9 ?_
   refine yt9 (t := true) (by simp [c, ci]) (fun h => ?_) (fun h => by simp at h)
   refine yj9 ?_
   refine yh9 ?_
   refine yl9 ?_
   refine yr9 [6, 17, 18, 19, 8] (by simp [↓hkf, c, ci, hge, reA, he8, yg9, htk10]; rfl) ?_
   rcases hfo with ⟨rfl, h0⟩ | rfl
   ·subst h0
    have hW0 : W = [] := List.eq_nil_of_length_eq_zero hjl
    subst hW0
    refine W_rE [6, 17, 18, 19] ?_
    refine yq9 2 (by simp [he8, htk10]; rfl) rfl ?_
    refine yf9 (by simp) (by first | (simp [htk10, frzL_vals _ (vq9 e)]; done) | (simp [htk10, frzL_vals _ (vq9 e)]; rfl)) hnm (by simp [strL]; rfl) ?_
    refine yw9 (by simp [catK, AV.cellsK, AV.kone, AV.koneL, hu1]; rfl) ?_
    repeat (first | refine on_norm ?_ | refine in_norm ?_)
    refine ug9 1 (by simp) (by simp) (by simp [zj9, AV.under, AV.underL]) (by simp [yb9, AObj.under, AV.under, AV.underL]) ?_
    refine zp9 [6, 17, 18, 19] (by simp [show IntKind.i64.wrap 1 = 1 from by decide]; rfl) ?_
    exact ⟨_, by omega, 0 + 1, .tip 9 55, rfl, by omega, .inr rfl, by rw [← htl]; simp [strL]⟩
   ·refine W_rE [6, 17, 18, 19] ?_
    refine yq9 2 (by simp [he8, htk10]; rfl) rfl ?_
    refine yf9 (by simp) (by first | (simp [htk10, frzL_vals _ (vq9 e)]; done) | (simp [htk10, frzL_vals _ (vq9 e)]; rfl)) hnm (by simp; rfl) ?_
    refine yw9 (by simp [catK, AV.cellsK, AV.kone, AV.koneL, hu1, hjl, b3, b4, htl]; rfl) ?_
    repeat (first | refine on_norm ?_ | refine in_norm ?_)
    refine ug9 1 (by simp) (by simp) (by simp [zj9, AV.under, AV.underL]) (by simp [yb9, AObj.under, AV.under, AV.underL]) ?_
    refine zp9 [6, 17, 18, 19] (by simp [wi]; rfl) ?_
    exact ⟨_, by omega, i + 1, .tip 9 55, rfl, by omega, .inr rfl, by simp⟩
  ·have hie : i = L.length := by omega
   subst hie
   refine yr9 [6, 20] (by simp [↓hkf]; rfl) ?_
   refine yh9 ?_
   refine yt9 rfl (fun h => by simp at h) (fun h => ?_)
   refine zd9 ?_
   repeat (first | refine on_exit ?_ | refine in_exit ?_)
   refine yr9 [2, 3] (by simp [↓hkf]; rfl) ?_
   refine yk9 ?_
   repeat (first | refine ys9 ?_ | refine yd9 ?_)
   rw [zl8, he]
   refine ⟨.tup [.lst fo 1 (strL (L.map fun e => nmM e.key)), .v (.int .i64 0)], by rcases hfo with ⟨rfl, _⟩ | rfl <;> simp [retQ, AV.rf, AV.rfL], AV.Le.tup2 ?_ (.refl _)⟩
   rcases hfo with ⟨rfl, h0⟩ | rfl
   ·rw [show L = [] from List.eq_nil_of_length_eq_zero h0]; exact AV.Le.nil (by decide +kernel)
   ·exact AV.Le.norm fun T => by simp [AV.norm]
end Go.AM
namespace Go.AM
open Go.RowKit Go.Proofs
set_option linter.unusedSimpArgs false
set_option linter.unusedVariables false
set_option maxHeartbeats 8000000
set_option maxRecDepth 20000
def rdM (d : Dcb) (t : List (List Rec)) (s : List UInt8) : List (List UInt8) × Int :=
 if (kg9 t).isNone = true ∨ partM d = false then ([], 5) else match ww8 t s with | none => ([], 3) | some e => memM d t e.trk e.rn
theorem ret_errR {n : Nat} {H : List AObj} {e : Int} : retU Tryz.prog [.tmp 6, .tmp 7] (resB ([], e)) .ret ⟨n, [(6, .lst .nil 1 []), (7, .v (.int .i64 e))], H⟩ :=
 ⟨.tup [.lst .nil 1 [], .v (.int .i64 e)], by simp [retQ], .tup2 (.nil (by decide +kernel)) (.refl _)⟩
theorem findR_findM {t : List (List Rec)} {L : List RE} {n : Nat} (he : kg9 t = some (L, n)) (s : List UInt8) : (findR L s).2 = (ww8 t s).isSome ∧ ∀ e, ww8 t s = some e → L[(findR L s).1]? = some e := by
 obtain ⟨hLl, hn, h8, hpw⟩ := read_len he
 rw [ww8, he, findR]
 simp only
 split
 ·rw [find_pos hpw]
  unfold fndE
  cases h0 : L[posE L (padK s)]? with
  | none => simp
  | some e =>
   by_cases hk : e.key == padK s
   ·simp only [hk, if_true]
    exact ⟨rfl, fun e' he' => he'⟩
   ·simp [hk]
 ·simp
theorem Read_sound (d : Dcb) {t : List (List Rec)} (ht : TIn t) (hf : t.flatten.length ≤ 1800000) (s : List UInt8) (hs : s.length ≤ 1000000000) : Sound Tryz.prog 8 [dcbA d, .lst .any 1 (arL t), strB s] (resB (rdM d t s)) := by
 refine ww9 Tryz.func8 rfl (by decide +kernel) (by simp [Tryz.f8]) (by simp [AV.rfL, AV.rf, strB]) (by simp [AV.tlL, AV.tl, strB]) (rs := [.tmp 6, .tmp 7]) rfl ?_
 rw [show Tryz.f8.ntmps = 43 from rfl]
 have hr := xl8 ht
 have hpart := part_sound d
 simp only [dcbA] at hpart
 obtain ⟨S, hS⟩ : ∃ S, strB s = S := ⟨_, rfl⟩
 have hSv : ∃ u, S = .v u := ⟨_, hS.symm⟩
 refine yr9 [1, 2, 3] (by simp [strB]; rfl) ?_
 cases he : kg9 t with
 | none =>
  rw [readP_none he] at hr
  obtain ⟨p, hp⟩ : ∃ p, qw9 t = p := ⟨_, rfl⟩
  rw [hp] at hr
  have hm : rdM d t s = ([], 5) := by unfold rdM; rw [if_pos (.inl (by rw [he]; rfl))]
  rw [hm]
  refine W_rK [1, 2, 3, 8, 9] ?_
  refine yq9 1 (by simp; rfl) rfl ?_
  refine yf9 (by simp) (by first | (simp; done) | (simp; rfl)) hr (by simp; rfl) ?_
  refine yw9 (by simp [yg9]; rfl) ?_
  refine yh9 ?_
  refine W_rK [1, 2, 3, 8, 23] ?_
  refine yw9 (by simp; rfl) ?_
  refine yt9 (t := true) rfl (fun h => ?_) (fun h => by simp at h)
  refine yr9 [6, 7] (by simp; rfl) ?_
  refine yk9 ?_
  repeat (first | refine ys9 ?_ | refine yd9 ?_)
  exact ret_errR
 | some p =>
  obtain ⟨L, n⟩ := p
  rw [readP_some he] at hr
  obtain ⟨hLl, hn, h8, hpw⟩ := read_len he
  have hok := (read_inv he).ok
  have hfd := find_sound L n s hs hpw h8 (by omega)
  rw [hS] at hfd
  obtain ⟨u, rfl⟩ := hSv
  obtain ⟨r1, r2⟩ := findR_findM he s
  rw [r1] at hfd
  obtain ⟨i, hi⟩ : ∃ i, (findR L s).1 = i := ⟨_, rfl⟩
  rw [hi] at hfd r2
  have hSu : AV.v (.string ⟨s.toArray⟩) = .v u := hS
  rw [hSu]
  refine W_rK [1, 2, 3, 8, 9] ?_
  refine yq9 1 (by simp; rfl) rfl ?_
  refine yf9 (by simp) (by first | (simp; done) | (simp; rfl)) hr (by simp; rfl) ?_
  refine yw9 (by simp [yg9]; rfl) ?_
  refine yh9 ?_
  refine W_rK [1, 2, 3, 8, 23] ?_
  refine yq9 4 (by simp; rfl) rfl ?_
  refine yf9 (by simp) (by first | (simp; done) | (simp; rfl)) hpart (by simp; rfl) ?_
  refine yw9 (by simp; rfl) ?_
  cases hp : partM d with
  | false =>
   have hm : rdM d t s = ([], 5) := by unfold rdM; rw [if_pos (.inr hp)]
   rw [hm]
   refine yt9 (t := true) rfl (fun h => ?_) (fun h => by simp at h)
   refine yr9 [6, 7] (by simp; rfl) ?_
   refine yk9 ?_
   repeat (first | refine ys9 ?_ | refine yd9 ?_)
   exact ret_errR
  | true =>
   have hm0 : rdM d t s = match ww8 t s with | none => ([], 3) | some e => memM d t e.trk e.rn := by
    unfold rdM
    rw [if_neg (by rw [he, hp]; simp)]
   refine yt9 (t := false) rfl (fun h => by simp at h) (fun h => ?_)
   refine ym9 [1, 2, 3, 8] ?_
   refine yj9 ?_
   repeat (first | refine on_norm ?_ | refine in_norm ?_)
   refine W_rK [1, 3, 8, 10, 11] ?_
   refine yq9 2 (by simp [xr9]; rfl) rfl ?_
   refine yf9 (by simp) (by first | (simp; done) | (simp; rfl)) hfd (by simp; rfl) ?_
   refine yw9 (by simp; rfl) ?_
   refine yh9 ?_
   cases hmf : ww8 t s with
   | none =>
    rw [hmf] at hm0
    rw [hm0]
    refine yr9 [1, 3, 8, 10, 31] (by simp [hmf]; rfl) ?_
    refine yt9 (t := true) rfl (fun h => ?_) (fun h => by simp at h)
    refine yr9 [6, 7] (by simp; rfl) ?_
    refine yk9 ?_
    repeat (first | refine ys9 ?_ | refine yd9 ?_)
    exact ret_errR
   | some e =>
    rw [hmf] at hm0
    rw [hm0]
    have hge := r2 e hmf
    obtain ⟨hil, hge2⟩ := List.getElem?_eq_some_iff.1 hge
    have hili : (i : Int) < (L.length : Nat) := by omega
    have hem := List.mem_of_getElem? hge
    have he8 := h8 e hem
    have hdr : List.drop 8 (reC e) = [.v (.int .i64 (e.trk : Nat)), .v (.int .i64 (e.rn : Nat))] := by rw [reC, List.drop_left' (by simp [he8])]
    have hmem := member_sound d t e.trk e.rn ht.n ht.rows hf (fun l hl r hr => (ht.d l hl r hr).2) (by have := (hok e hem).2.1; omega)
    simp only [dcbA, resB] at hmem
    refine yr9 [1, 3, 8, 10, 31] (by simp [hmf]; rfl) ?_
    refine yt9 (t := false) rfl (fun h => by simp at h) (fun h => ?_)
    refine ym9 [1, 3, 8, 10] ?_
    refine yj9 ?_
    repeat (first | refine on_norm ?_ | refine in_norm ?_)
    refine wc9 [6, 7] mx (by decide +kernel) ?_
    refine yp9 4 (by simp [xr9]; rfl) rfl ?_
    refine yp9 4 (by simp [hil, hili, hge2, reA, hdr, zl9 he8]; rfl) rfl ?_
    refine yv9 (by simp) (by first | (simp; done) | (simp; rfl)) hmem (by simp; rfl) ?_
    refine yn9 (by simp; rfl) ?_
    refine yk9 ?_
    repeat (first | refine ys9 ?_ | refine yd9 ?_)
    exact ⟨_, by simp [retQ]; exact ⟨rfl, by simp⟩, .norm fun T => by simp [resB]⟩
end Go.AM
namespace Go.AM
open Go.RowKit Go.Proofs
set_option linter.unusedSimpArgs false
set_option linter.unusedVariables false
set_option maxHeartbeats 1000000
set_option maxRecDepth 20000
def resT (p : List (List Rec) × Int) : AV := .tup [.lst (.tip 80 1) 1 (arL p.1), .v (.int .i64 p.2)]
end Go.AM
namespace Go.AM
open Go.RowKit Go.Proofs
set_option linter.unusedSimpArgs false
set_option linter.unusedVariables false
set_option maxHeartbeats 2000000
theorem vgo_asc : ∀ {t : List Rec} {p : Option Int}, vgo p t = true → (∀ x, p = some x → ∀ r ∈ t, x < r.R) ∧ t.Pairwise (fun a b => a.R < b.R) ∧ ∀ r ∈ t, vrec r = true
 | [], p, _ => by simp
 | r :: t, p, h => by
  rw [vgo_cons, Bool.and_eq_true, Bool.and_eq_true] at h
  obtain ⟨⟨h1, h2⟩, h3⟩ := h
  obtain ⟨i1, i2, i3⟩ := vgo_asc h3
  have i1' := i1 r.R rfl
  refine ⟨fun x hx y hy => ?_, List.pairwise_cons.2 ⟨i1', i2⟩, fun y hy => ?_⟩
  ·subst hx
   have h2' : x < r.R := by simpa using h2
   rcases List.mem_cons.1 hy with rfl | hy
   ·exact h2'
   ·exact Int.lt_trans h2' (i1' y hy)
  ·rcases List.mem_cons.1 hy with rfl | hy
   ·exact h1
   ·exact i3 y hy
theorem vtrk_asc {t : List Rec} (h : vtrk t = true) : t.Pairwise (fun a b => a.R < b.R) ∧ (∀ r ∈ t, vrec r = true) ∧ vt9 t ≤ 2048 := by
 unfold vtrk at h
 rw [Bool.and_eq_true, decide_eq_true_eq] at h
 exact ⟨(vgo_asc h.1).2.1, (vgo_asc h.1).2.2, h.2⟩
theorem vrec_rng {r : Rec} (h : vrec r = true) : 1 ≤ r.R ∧ r.R ≤ 255 := by
 unfold vrec at h
 simp only [Bool.and_eq_true, decide_eq_true_eq] at h
 exact h.1
theorem find_new {L : List Rec} {r : Rec} (h : vtrk (L ++ [r]) = true) : qv9 (L ++ [r]) r.R = some L.length := by
 obtain ⟨h1, _, _⟩ := vtrk_asc h
 rw [List.pairwise_append] at h1
 unfold qv9
 rw [List.findIdx?_append]
 have e : L.findIdx? (fun x => x.R == r.R) = none := by
  rw [List.findIdx?_eq_none_iff]
  intro x hx
  have := h1.2.2 x hx r (List.mem_singleton.2 rfl)
  simp only [beq_eq_false_iff_ne]
  omega
 rw [e]
 simp [List.findIdx?_cons]
theorem wr1_place (dir : Nat) (t : List (List Rec)) (b : List UInt8) : ∃ k, qv9 ((wr1 dir t b).1.getD (wr1 dir t b).2.1 []) (wr1 dir t b).2.2 = some k ∧ ((wr1 dir t b).1.take (wr1 dir t b).2.1).flatten.length + k = t.flatten.length ∧
  (wr1 dir t b).2.1 + 1 = (wr1 dir t b).1.length ∧ (dir ≤ t.length → dir ≤ (wr1 dir t b).2.1) ∧ 1 ≤ (wr1 dir t b).2.2 ∧ (wr1 dir t b).2.2 ≤ 255 := by
 unfold wr1
 split
 ·rename_i hc
  have hne : t ≠ [] := by intro h; rw [h] at hc; simp at hc
  have hs := split_last hne
  obtain ⟨D, hD⟩ : ∃ D, t.dropLast = D := ⟨_, rfl⟩
  obtain ⟨L, hL⟩ : ∃ L, xk9 t = L := ⟨_, rfl⟩
  rw [hD, hL] at hs ⊢
  rw [hL, ← vtrk_snoc] at hc
  have hlen : t.length - 1 = D.length := by rw [hs]; simp
  simp only
  rw [hlen]
  have hv := (vtrk_asc hc.2).2.1 _ (List.mem_append_right _ (List.mem_singleton.2 rfl))
  have hr := vrec_rng hv
  refine ⟨L.length, ?_, ?_, by simp, fun h => ?_, hr.1, hr.2⟩
  ·rw [List.getD_eq_getElem?_getD, List.getElem?_append_right (Nat.le_refl _)]
   simp only [Nat.sub_self, List.getElem?_cons_zero, Option.getD_some]
   exact find_new hc.2
  ·rw [List.take_left, hs]
   simp
  ·rw [hs] at hc
   simp at hc
   omega
 ·refine ⟨0, ?_, ?_, by simp, fun h => h, by simp, by simp⟩
  ·rw [List.getD_eq_getElem?_getD, List.getElem?_append_right (Nat.le_refl _)]
   simp [qv9, List.findIdx?_cons]
  ·simp
theorem wrL_ext (dir : Nat) : ∀ (L : List (List UInt8)) (t : List (List Rec)), ∃ N, WExt t N (wrL dir t L) ∧ N.map (·.data) = L ∧ ∀ r ∈ N, r.key = [] ∧ r.bad = false
 | [], t => ⟨[], WExt.refl t, rfl, by simp⟩
 | b :: L, t => by
  obtain ⟨N, h1, h2, h3⟩ := wrL_ext dir L (wr1 dir t b).1
  refine ⟨_, (wr1_ext dir t b).trans h1, by rw [List.map_append, h2]; rfl, ?_⟩
  intro r hr
  rcases List.mem_append.1 hr with hr | hr
  ·rw [List.mem_singleton.1 hr]; exact ⟨rfl, rfl⟩
  ·exact h3 r hr
theorem wrL_split (dir : Nat) (t : List (List Rec)) (bs : List (List UInt8)) : ∃ Ls, bs ++ [[]] = bs.headD [] :: Ls ∧ wrL dir t (bs ++ [[]]) = wrL dir (wr1 dir t (bs.headD [])).1 Ls := by
 cases bs with
 | nil => exact ⟨[], rfl, rfl⟩
 | cons b bs => exact ⟨bs ++ [[]], rfl, rfl⟩
theorem wrE_place (dir : Nat) (t : List (List Rec)) (bs : List (List UInt8)) (h : dir ≤ t.length) : dir ≤ (wrE dir t bs).2.1 ∧ (wrE dir t bs).2.1 < (wrE dir t bs).1.length ∧ 1 ≤ (wrE dir t bs).2.2 ∧ (wrE dir t bs).2.2 ≤ 255 := by
 obtain ⟨Ls, h1, h2⟩ := wrL_split dir t bs
 obtain ⟨k, p1, p2, p3, p4, p5, p6⟩ := wr1_place dir t (bs.headD [])
 obtain ⟨N, w1, _, _⟩ := wrL_ext dir Ls (wr1 dir t (bs.headD [])).1
 refine ⟨p4 h, ?_, p5, p6⟩
 show (wr1 dir t (bs.headD [])).2.1 < (wrL dir t (bs ++ [[]])).length
 rw [h2]
 have := w1.len
 omega
theorem lastT_app (D : List (List Rec)) {u : List (List Rec)} (h : u ≠ []) : xk9 (D ++ u) = xk9 u := by
 unfold xk9
 rw [List.getLast?_append, List.getLast?_eq_some_getLast h]
 rfl
theorem wr1_front (D u : List (List Rec)) (b : List UInt8) : wr1 D.length (D ++ u) b = (D ++ (wr1 0 u b).1, (D.length + (wr1 0 u b).2.1, (wr1 0 u b).2.2)) := by
 cases u with
 | nil => simp [wr1]
 | cons x u =>
  have hl := lastT_app D (u := x :: u) (by simp)
  unfold wr1
  rw [hl]
  by_cases hf : fitsT (xk9 (x :: u)) ⟨nxR (xk9 (x :: u)), [], b, false⟩ = true
  ·rw [if_pos ⟨by simp, hf⟩, if_pos ⟨by simp, hf⟩]
   rw [List.dropLast_append_of_ne_nil (by simp)]
   simp only [List.append_assoc, List.length_append, List.length_cons, Prod.mk.injEq, true_and, and_true]
   omega
  ·rw [if_neg (by simp [hf]), if_neg (by simp [hf])]
   simp
theorem wrL_front (D : List (List Rec)) : ∀ (L : List (List UInt8)) (u : List (List Rec)), wrL D.length (D ++ u) L = D ++ wrL 0 u L
 | [], u => rfl
 | b :: L, u => by
  show wrL D.length (wr1 D.length (D ++ u) b).1 L = D ++ wrL 0 (wr1 0 u b).1 L
  rw [wr1_front, wrL_front D L]
theorem wrE_front (D u : List (List Rec)) (bs : List (List UInt8)) : wrE D.length (D ++ u) bs = (D ++ (wrE 0 u bs).1, (D.length + (wrE 0 u bs).2.1, (wrE 0 u bs).2.2)) := by
 unfold wrE
 rw [wrL_front, wr1_front]
end Go.AM
namespace Go.AM
open Go.RowKit Go.Proofs
set_option linter.unusedSimpArgs false
set_option linter.unusedVariables false
set_option maxHeartbeats 2000000
theorem wr1_validD (dir : Nat) {u : List (List Rec)} {b : List UInt8} (h : ∀ x ∈ u, vtrk x = true) (hb : b.length ≤ 1024) : ∀ x ∈ (wr1 dir u b).1, vtrk x = true := by
 have h1 : vtrk [⟨1, [], b, false⟩] = true := by
  unfold vtrk vgo
  simp [vrec, vt9, kw9, vgo]
  omega
 unfold wr1
 split
 ·rename_i hc
  intro x hx
  rcases List.mem_append.1 hx with hx | hx
  ·exact h x (List.dropLast_subset _ hx)
  ·rw [List.mem_singleton.1 hx, vtrk_snoc]; exact hc.2
 ·intro x hx
  rcases List.mem_append.1 hx with hx | hx
  ·exact h x hx
  ·rw [List.mem_singleton.1 hx]; exact h1
theorem wrL_validD (dir : Nat) : ∀ {L : List (List UInt8)} {u : List (List Rec)}, (∀ x ∈ u, vtrk x = true) → (∀ b ∈ L, b.length ≤ 1024) → ∀ x ∈ wrL dir u L, vtrk x = true
 | [], u, h, _ => h
 | b :: L, u, h, hb => wrL_validD dir (u := (wr1 dir u b).1) (wr1_validD dir h (hb b List.mem_cons_self)) (fun x hx => hb x (List.mem_cons_of_mem _ hx))
theorem wrE_validD (dir : Nat) {u : List (List Rec)} {bs : List (List UInt8)} (h : ∀ x ∈ u, vtrk x = true) (hb : ∀ b ∈ bs, b.length ≤ 1024) : ∀ x ∈ (wrE dir u bs).1, vtrk x = true := by
 refine wrL_validD dir h fun b hb' => ?_
 rcases List.mem_append.1 hb' with h1 | h1
 ·exact hb b h1
 ·rw [List.mem_singleton.1 h1]; simp
theorem wr1_len (dir : Nat) (t : List (List Rec)) (b : List UInt8) : (wr1 dir t b).1.length ≤ t.length + 1 := by
 unfold wr1
 split
 ·rename_i hc
  have : t ≠ [] := by intro h; rw [h] at hc; simp at hc
  have := List.length_pos_iff.2 this
  simp
 ·simp
theorem wrL_len (dir : Nat) : ∀ (L : List (List UInt8)) (t : List (List Rec)), (wrL dir t L).length ≤ t.length + L.length
 | [], t => by simp [wrL]
 | b :: L, t => by
  have h1 := wrL_len dir L (wr1 dir t b).1
  have h2 := wr1_len dir t b
  show (wrL dir (wr1 dir t b).1 L).length ≤ _
  simp
  omega
theorem wrE_len (dir : Nat) (t : List (List Rec)) (bs : List (List UInt8)) : (wrE dir t bs).1.length ≤ t.length + bs.length + 1 := by
 have := wrL_len dir (bs ++ [[]]) t
 simp at this
 unfold wrE
 dsimp only
 omega
theorem wrL_snoc (dir : Nat) (t : List (List Rec)) (L : List (List UInt8)) (b : List UInt8) : wrL dir t (L ++ [b]) = (wr1 dir (wrL dir t L) b).1 := by
 unfold wrL
 rw [List.foldl_append]
 rfl
theorem cost_ge (r : Rec) : 32 + r.data.length + r.key.length ≤ kw9 r + 0 := by
 unfold kw9
 split
 ·rename_i h; rw [h]; simp
 ·omega
theorem used_mem : ∀ {t : List Rec} {r : Rec}, r ∈ t → kw9 r ≤ vt9 t
 | [], r, h => by simp at h
 | q :: t, r, h => by
  have e : vt9 (q :: t) = kw9 q + vt9 t := by simp [vt9]
  rcases List.mem_cons.1 h with rfl | h
  ·omega
  ·have := used_mem h; omega
theorem used_len : ∀ t : List Rec, 32 * t.length ≤ vt9 t
 | [] => by simp
 | q :: t => by
  have e : vt9 (q :: t) = kw9 q + vt9 t := by simp [vt9]
  have := used_len t
  have := cost_ge q
  simp
  omega
theorem vtrk_small {t : List Rec} (h : vtrk t = true) : t.length ≤ 64 ∧ (∀ r ∈ t, r.key.length ≤ 2048 ∧ r.data.length ≤ 2048 ∧ 1 ≤ r.R ∧ r.R ≤ 255) ∧ trSm t := by
 obtain ⟨_, hv, hu⟩ := vtrk_asc h
 have h1 := used_len t
 have h2 : ∀ r ∈ t, r.key.length ≤ 2048 ∧ r.data.length ≤ 2048 ∧ 1 ≤ r.R ∧ r.R ≤ 255 := by
  intro r hr
  have := used_mem hr
  have := cost_ge r
  have := vrec_rng (hv r hr)
  omega
 exact ⟨by omega, h2, by omega, fun r hr => ⟨by have := (h2 r hr).1; omega, by have := (h2 r hr).2.1; omega⟩⟩
theorem nxR_vtrk {t : List Rec} (h : vtrk t = true) : 1 ≤ nxR t ∧ nxR t ≤ 256 := by
 unfold nxR
 cases hl : t.getLast? with
 | none => exact ⟨by decide, by decide⟩
 | some r =>
  have := (vtrk_small h).2.1 r (List.mem_of_getLast? hl)
  dsimp only
  omega
theorem block_le {d : Dcb} {l bs : List (List UInt8)} (h : wd9 d l = (bs, 0)) : bs.length ≤ 4096 ∧ l.length ≤ 4096 ∧ xs9 d = 0 ∧ ∀ b ∈ bs, b ≠ [] ∧ b.length ≤ 1024 := by
 obtain ⟨hc, hl, gs, rfl, rfl, hg, _⟩ := blockM_groups h
 have h1 := jn9 hc
 have hb : ∀ b ∈ gs.map (enc d), b ≠ [] ∧ b.length ≤ 1024 := by
  intro b hb
  obtain ⟨g, hgm, rfl⟩ := List.mem_map.1 hb
  have hk := hg g hgm
  have := body_pos hc hk.ne hk.fit
  have := hk.len
  refine ⟨?_, by omega⟩
  intro he
  have hz : (enc d g).length = 0 := by rw [he]; rfl
  unfold enc at hz
  split at hz
  ·simp at hz
  ·omega
 have hn : ∀ gs : List (List (List UInt8)), (∀ x ∈ gs, GroupOk d x) → gs.length ≤ gs.flatten.length := by
  intro gs
  induction gs with
  | nil => intro _; simp
  | cons g gs ih =>
   intro h
   have h1 := ih fun x hx => h x (List.mem_cons_of_mem _ hx)
   have h2 := List.length_pos_iff.2 (h g List.mem_cons_self).ne
   simp at h1 ⊢
   omega
 have := hn gs hg
 exact ⟨by rw [List.length_map]; omega, hl, hc, hb⟩
theorem lastT_mem {t : List (List Rec)} (h : t ≠ []) : xk9 t ∈ t := by
 unfold xk9
 rw [List.getLast?_eq_some_getLast h]
 exact List.getLast_mem h
end Go.AM
namespace Go.AM
open Go.RowKit Go.Proofs
set_option linter.unusedSimpArgs false
set_option linter.unusedVariables false
set_option maxHeartbeats 4000000
set_option maxRecDepth 20000
theorem chI_at : ∀ i : Nat, i < 95 → chI (vs9.getD i 0) = i := by decide +kernel
theorem chI_no (b : UInt8) (h : ∀ j : Nat, j < 95 → vs9.getD j 0 ≠ b) : chI b < 0 := by
 have hd : ∀ n : Nat, n < 256 → chI (UInt8.ofNat n) < 0 ∨ ((chI (UInt8.ofNat n)).toNat < 95 ∧ vs9.getD (chI (UInt8.ofNat n)).toNat 0 = UInt8.ofNat n) := by decide +kernel
 have h1 := hd b.toNat b.toNat_lt
 rw [UInt8.ofNat_toNat] at h1
 rcases h1 with h1 | ⟨h1, h2⟩
 ·exact h1
 ·exact absurd h2 (h _ h1)
theorem rchar_sound (b : UInt8) : Sound Tryz.prog 139 [.v (.int .u8 b.toNat)] (.tup [.v (.int .u8 (chM b).1.toNat), .v (.bool (chM b).2)]) := by
 refine yc9 Tryz.func139 rfl (by decide +kernel) (by simp [Tryz.f139]) rfl rfl (rs := [.tmp 2, .tmp 3]) rfl ?_
 rw [show Tryz.f139.ntmps = 22 from rfl]
 have hc95 : vs9.length = 95 := by decide +kernel
 have hat := chI_at
 have hno := chI_no b
 have htb := table_sound
 obtain ⟨L, hL⟩ : ∃ L, vs9 = L := ⟨_, rfl⟩
 rw [hL] at hc95 hat hno htb
 refine yr9 [0] (by simp; rfl) ?_
 refine W_rK [0, 4] ?_
 refine yf9 (by simp) (by first | (simp; done) | (simp; rfl)) htb (by simp; rfl) ?_
 refine yw9 (by simp; rfl) ?_
 refine yh9 ?_
 refine yr9 [0, 4, 5] (by simp; rfl) ?_
 refine yl9 ?_
 refine zg9 (fun k s => ∃ i : Nat, k = 95 - i ∧ i ≤ 95 ∧ (∀ j : Nat, j < i → L.getD j 0 ≠ b) ∧ s = ⟨22, [(0, .v (.int .u8 b.toNat)), (4, .lst (.tip 5 13) 1 (byL L)), (5, .v (.int .i64 (i : Nat)))], []⟩) (k := 95) ⟨0, rfl, by omega, by intro j hj; omega, by simp⟩ ?_
 rintro k s ⟨i, rfl, hi, hne, rfl⟩
 refine yh9 ?_
 by_cases c : i < 95
 ·have cL : i < L.length := by omega
  have cLi : (i : Int) < L.length := by omega
  obtain ⟨d, hd⟩ : ∃ d, L.getD i 0 = d := ⟨_, rfl⟩
  have hd2 : L[i]'cL = d := by rw [← hd, List.getD_eq_getElem?_getD, List.getElem?_eq_getElem cL]; rfl
  have wi := w64 (n := (i : Int) + 1) (by omega) (by omega)
  refine W_cT [0, 4, 5, 10] (by simp [cL, cLi]; rfl) rfl ?_
  refine yj9 ?_
  refine yh9 ?_
  refine yl9 ?_
  by_cases e : d = b
  ·have hci : chI b = (i : Nat) := by rw [← e, ← hd]; exact hat i c
   have hM : chM b = (UInt8.ofNat (32 + i), true) := by rw [chM, if_neg (by omega), hci]; rfl
   have w1 : IntKind.i64.wrap (32 + (i : Int)) = 32 + (i : Int) := w64 (by omega) (by omega)
   have w2 : IntKind.u8.wrap (32 + (i : Int)) = ((UInt8.ofNat (32 + i)).toNat : Nat) := by
    rw [UInt8.toNat_ofNat']
    simp only [IntKind.wrap_u8]
    omega
   refine yr9 [0, 4, 5, 18] (by simp [cL, cLi, hd2, e]; rfl) ?_
   refine yt9 (t := true) (by simp) (fun h => ?_) (fun h => by simp at h)
   refine yr9 [2, 3] (by simp [w1, w2]; rfl) ?_
   refine yk9 ?_
   repeat (first | refine ys9 ?_ | refine yd9 ?_)
   simp [retQ, hM]
  ·have e2 : ¬ d.toNat = b.toNat := fun h => e (UInt8.toNat_inj.1 h)
   have e3 : ¬ (d.toNat : Int) = b.toNat := by omega
   refine yr9 [0, 4, 5, 18] (by simp [cL, cLi, hd2]; rfl) ?_
   refine yt9 (t := false) (by simp [e, e2, e3]) (fun h => by simp at h) (fun h => ?_)
   refine yj9 ?_
   refine zp9 [0, 4, 5] (by simp [wi]; rfl) ?_
   refine ⟨_, by omega, i + 1, rfl, by omega, ?_, by simp⟩
   intro j hj
   by_cases hji : j = i
   ·rw [hji, hd]; exact e
   ·exact hne j (by omega)
 have hie : i = 95 := by omega
 subst hie
 have hM : chM b = (0, false) := by rw [chM, if_pos (hno hne)]
 refine W_cF [0, 4, 5, 10] (by simp [hc95]; rfl) rfl ?_
 refine zd9 ?_
 refine yr9 [2, 3] (by simp; rfl) ?_
 refine yk9 ?_
 repeat (first | refine ys9 ?_ | refine yd9 ?_)
 simp [retQ, hM]
theorem rdecode_sound (l : List UInt8) (hl : l.length ≤ 100000) : Sound Tryz.prog 122 [.lst .any 1 (byL l)] (strB (decM l)) := by
 refine yc9 Tryz.func122 rfl (by decide +kernel) (by simp [Tryz.f122]) rfl rfl (rs := [.tmp 2]) rfl ?_
 rw [show Tryz.f122.ntmps = 29 from rfl]
 refine yr9 [0] (by simp; rfl) ?_
 refine yr9 [0, 3] (by simp; rfl) ?_
 refine yh9 ?_
 refine yr9 [0, 3, 4] (by simp; rfl) ?_
 refine yl9 ?_
 refine zg9 (fun k s => ∃ (i : Nat) (x : AV), k = l.length - i ∧ i ≤ l.length ∧ accB x (decM (l.take i)) ∧
  s = ⟨29, [(0, .lst .any 1 (byL l)), (3, x), (4, .v (.int .i64 (i : Nat)))], []⟩) (k := l.length) ⟨0, _, rfl, by omega, .inl ⟨rfl, rfl⟩, by simp⟩ ?_
 rintro k s ⟨i, x, rfl, hi, hx, rfl⟩
 refine yh9 ?_
 by_cases c : i < l.length
 ·have ci : (i : Int) < l.length := by omega
  obtain ⟨b, hb⟩ : ∃ b, l[i]? = some b := ⟨_, List.getElem?_eq_getElem c⟩
  have hb2 : l[i]'c = b := by rw [List.getElem?_eq_getElem c] at hb; exact Option.some.inj hb
  have wi := w64 (n := (i : Int) + 1) (by omega) (by omega)
  have htk : decM (l.take (i + 1)) = decM (l.take i) ++ [dec1 b] := by
   rw [List.take_add_one, hb]; simp [decM]
  have hlen : (decM (l.take i)).length = i := by simp [decM]; omega
  refine W_cT [0, 3, 4, 10] (by simp [c, ci]; rfl) rfl ?_
  refine yj9 ?_
  refine yh9 ?_
  refine yl9 ?_
  refine W_rK [0, 3, 4, 5, 6] ?_
  refine yq9 4 (by simp [c, ci, hb2]; rfl) rfl ?_
  refine yf9 (by simp) (by first | (simp; done) | (simp; rfl)) (rchar_sound b) (by simp; rfl) ?_
  refine yw9 (by simp; rfl) ?_
  refine uf9 (fun σ => σ = ⟨29, [(0, .lst .any 1 (byL l)), (3, x), (4, .v (.int .i64 (i : Nat))), (5, .v (.int .u8 (dec1 b).toNat))], []⟩ ∨ σ = ⟨29, [(0, .lst .any 1 (byL l)), (3, x), (4, .v (.int .i64 (i : Nat))), (5, .v (.int .u8 (dec1 b).toNat)), (22, .v (.bool false))], []⟩) ?_ ?_
  ·cases hok : (chM b).2 with
   | false =>
    have hd : dec1 b = 46 := by simp [dec1, hok]
    refine W_cT [0, 3, 4, 5, 22] (by simp [hok]; rfl) rfl ?_
    refine zp9 [0, 3, 4, 5] (by simp; rfl) ?_
    simp [zw9, hd]
   | true =>
    have hd : dec1 b = (chM b).1 := by simp [dec1, hok]
    refine W_cF [0, 3, 4, 5, 22] (by simp [hok]; rfl) rfl ?_
    refine yj9 ?_
    simp [zw9, hd]
  rintro σ (rfl | rfl)
  all_goals
   have fin : ∃ k', k' < l.length - i ∧ ∃ (i' : Nat) (x : AV), k' = l.length - i' ∧ i' ≤ l.length ∧ accB x (decM (l.take i')) ∧
     (⟨29, [(0, .lst .any 1 (byL l)), (3, .lst (.tip 5 53) 1 (byL (decM (l.take i) ++ [dec1 b]))), (4, .v (.int .i64 ((i : Int) + 1)))], []⟩ : St) = ⟨29, [(0, .lst .any 1 (byL l)), (3, x), (4, .v (.int .i64 (i' : Nat)))], []⟩ :=
    ⟨_, by omega, i + 1, _, rfl, by omega, by rw [htk]; exact .inr rfl, by simp⟩
   rcases hx with ⟨h0, rfl⟩ | rfl
   ·rw [h0] at fin
    refine zp9 [0, 3, 4] (by simp [catK, AV.cellsK, AV.kone, AV.koneL]; rfl) ?_
    refine zp9 [0, 3, 4] (by simp [wi]; rfl) ?_
    simpa [byL] using fin
   ·refine zp9 [0, 3, 4] (by simp [catK, AV.cellsK, AV.kone, AV.koneL, hlen, show i + 1 ≤ 140737488355328 by omega]; rfl) ?_
    refine zp9 [0, 3, 4] (by simp [wi]; rfl) ?_
    simpa [byL] using fin
 have hie : i = l.length := by omega
 subst hie
 rw [List.take_length] at hx
 refine W_cF [0, 3, 4, 10] (by simp; rfl) rfl ?_
 refine zd9 ?_
 rcases hx with ⟨h0, rfl⟩ | rfl
 ·refine yr9 [2] (by simp; rfl) ?_
  refine yk9 ?_
  repeat (first | refine ys9 ?_ | refine yd9 ?_)
  simp [retQ, strB, h0]
 ·refine yr9 [2] (by simp; rfl) ?_
  refine yk9 ?_
  repeat (first | refine ys9 ?_ | refine yd9 ?_)
  simp [retQ, strB]
theorem rtrim_sound (l : List UInt8) (hl : l.length ≤ 100000) : Sound Tryz.prog 91 [.lst .any 1 (byL l)] (strB (decM (qn9 l))) := by
 refine yc9 Tryz.func91 rfl (by decide +kernel) (by simp [Tryz.f91]) rfl rfl (rs := [.tmp 2]) rfl ?_
 rw [show Tryz.f91.ntmps = 22 from rfl]
 refine yr9 [0] (by simp; rfl) ?_
 refine yr9 [0, 3] (by simp; rfl) ?_
 refine yh9 ?_
 refine yl9 ?_
 refine zg9 (fun k s => k ≤ l.length ∧ (∀ (j : Nat) (b : UInt8), k ≤ j → l[j]? = some b → b = 64) ∧ s = ⟨22, [(0, .lst .any 1 (byL l)), (3, .v (.int .i64 (k : Nat)))], []⟩) (k := l.length) ⟨Nat.le_refl _, fun j b hj hb => by have := (List.getElem?_eq_some_iff.1 hb).1; omega, by simp⟩ ?_
 rintro k s ⟨hk, hall, rfl⟩
 refine yh9 ?_
 have done : qn9 l = l.take k → ∀ σ, σ = (⟨22, [(0, .lst .any 1 (byL l)), (3, .v (.int .i64 (k : Nat)))], []⟩ : St) → True := fun _ _ _ => trivial
 by_cases k0 : k = 0
 ·subst k0
  have hT : qn9 l = [] := by rw [trim_drop l 0 (by omega) hall (.inl rfl)]; rfl
  refine W_cF [0, 3, 15] (by simp; rfl) rfl ?_
  refine zd9 ?_
  refine W_rK [2] ?_
  refine yq9 3 (by simp [← vw9]; rfl) rfl ?_
  refine yf9 (by simp) (by first | (simp; done) | (simp; rfl)) (show Sound Tryz.prog 122 [.lst .any 1 []] (strB (decM [])) from rdecode_sound [] (by simp)) (by simp [strB]; rfl) ?_
  refine yw9 (by simp; rfl) ?_
  refine yk9 ?_
  repeat (first | refine ys9 ?_ | refine yd9 ?_)
  simp [retQ, strB, hT]
 have kp : 0 < k := by omega
 have kp' : (0 : Int) < k := by omega
 have wk : IntKind.i64.wrap ((k : Int) - 1) = ((k - 1 : Nat) : Int) := by rw [w64 (by omega) (by omega)]; omega
 obtain ⟨b, hb⟩ : ∃ b, l[k - 1]? = some b := ⟨_, List.getElem?_eq_getElem (by omega)⟩
 have hbb : (byL l)[k - 1]? = some (.v (.int .u8 b.toNat)) := by simp [byL, hb]
 have hb2 : l[k - 1]'(by omega) = b := by rw [List.getElem?_eq_getElem (by omega)] at hb; exact Option.some.inj hb
 have hkl : k - 1 < l.length := by omega
 by_cases h64 : b = 64
 ·subst h64
  refine W_cT [0, 3, 15] (by simp [kp, kp', wk, hb2, hkl]; rfl) rfl ?_
  refine yj9 ?_
  refine yl9 ?_
  refine zp9 [0, 3] (by simp [wk]; rfl) ?_
  refine ⟨k - 1, by omega, by omega, fun j b2 hj hb3 => ?_, rfl⟩
  by_cases hjk : j = k - 1
  ·subst hjk
   rw [hb] at hb3
   exact (Option.some.inj hb3).symm
  ·exact hall j b2 (by omega) hb3
 ·have hT : qn9 l = l.take k := trim_drop l k hk hall (.inr ⟨b, hb, h64⟩)
  have h64' : ((b.toNat : Int) == 64) = false := by
   rw [beq_eq_false_iff_ne]
   intro h
   apply h64
   apply UInt8.toNat_inj.1
   show b.toNat = 64
   omega
  refine W_cF [0, 3, 15] (by simp [kp, kp', wk, hb2, hkl, h64']; rfl) rfl ?_
  refine zd9 ?_
  refine W_rK [2] ?_
  refine yq9 3 (by simp [← vw9, hk]; rfl) rfl ?_
  refine yf9 (by simp) (by first | (simp; done) | (simp; rfl)) (rdecode_sound (l.take k) (by simp; omega)) (by simp [strB]; rfl) ?_
  refine yw9 (by simp; rfl) ?_
  refine yk9 ?_
  repeat (first | refine ys9 ?_ | refine yd9 ?_)
  simp [retQ, strB, hT]
end Go.AM
