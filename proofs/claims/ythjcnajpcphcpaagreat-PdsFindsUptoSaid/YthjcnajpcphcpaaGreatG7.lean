/- Parts of the walk: C24D C24L R31T C24E C24G C24H. -/
import Derived.Test.YthjcnajpcphcpaaGreatG6
namespace Go.AM
open Go.RowKit Go.Proofs
set_option linter.unusedSimpArgs false
set_option linter.unusedVariables false
set_option maxHeartbeats 4000000
set_option maxRecDepth 20000
theorem posE_of {l : List RE} {k : List UInt8} {i : Nat} (hi : i ≤ l.length) (h1 : ∀ m e, m < i → l[m]? = some e → Op.bytesLess e.key k = true) (h2 : ∀ m e, i ≤ m → l[m]? = some e → Op.bytesLess e.key k = false) : posE l k = i := by
 have e : l = l.take i ++ l.drop i := (List.take_append_drop i l).symm
 unfold posE
 rw [e, kd9]
 ·cases hd : l.drop i with
  | nil => simp [List.length_take]; omega
  | cons x r =>
   have hx : l[i]? = some x := by
    have := congrArg List.head? hd
    rw [List.head?_drop] at this
    simpa using this
   rw [List.takeWhile_cons, if_neg (by rw [h2 i x (Nat.le_refl _) hx]; decide), List.append_nil, List.length_take]
   omega
 ·intro x hx
  obtain ⟨m, hm, rfl⟩ := List.mem_iff_getElem.1 hx
  rw [List.length_take] at hm
  refine h1 m _ (by omega) ?_
  rw [List.getElem_take, List.getElem?_eq_getElem (by omega)]
theorem pw_less {l : List RE} (h : l.Pairwise ltE) {i j : Nat} {a b : RE} (hij : i < j) (ha : l[i]? = some a) (hb : l[j]? = some b) : Op.bytesLess a.key b.key = true := by
 obtain ⟨h1, rfl⟩ := List.getElem?_eq_some_iff.1 ha
 obtain ⟨h2, rfl⟩ := List.getElem?_eq_some_iff.1 hb
 exact List.pairwise_iff_getElem.1 h i j h1 h2 hij
def reCs (l : List RE) : List AV := (l.map reC).flatten
def CellsRE (cs : List AV) (l : List RE) : Prop := ∀ i e, l[i]? = some e → i * 10 + 10 ≤ cs.length ∧ (cs.drop (i * 10)).take 10 = reC e
theorem bs_sound (l : List RE) (k : List UInt8) (hp : l.Pairwise ltE) (h8 : ∀ e ∈ l, e.key.length = 8) (hk : k.length = 8) (hl : l.length ≤ 1000000000) : Sound Tryz.prog 67 [.lst .any 10 (reL l), .agg (byL k), .fn (.func 69) [] []] (.tup [.v (.int .i64 (posE l k : Nat)), .v (.bool (fndE l k))]) := by
 refine yc9 Tryz.func67 rfl (by decide +kernel) (by simp [Tryz.f67]) (by simp [AV.rfL, AV.rf]) (by simp [AV.tlL, AV.tl]) (rs := [.tmp 6, .tmp 7]) rfl ?_
 rw [show Tryz.f67.ntmps = 49 from rfl]
 refine yr9 [0, 2, 4] (by simp [hk]; rfl) ?_
 refine yr9 [0, 2, 4, 8] (by simp; rfl) ?_
 refine yr9 [0, 2, 4, 8, 9, 10] (by simp; rfl) ?_
 refine yh9 ?_
 refine yl9 ?_
 refine zg9 (fun q s => ∃ i j : Nat, q = j - i ∧ i ≤ j ∧ j ≤ l.length ∧ (∀ m e, m < i → l[m]? = some e → Op.bytesLess e.key k = true) ∧ (∀ m e, j ≤ m → l[m]? = some e → Op.bytesLess e.key k = false) ∧
  s = ⟨49, [(0, .lst .any 10 (reL l)), (2, .fn (.func 69) [] []), (4, .loc 0 0), (8, .v (.int .i64 (l.length : Nat))), (9, .v (.int .i64 (i : Nat))), (10, .v (.int .i64 (j : Nat)))], [.cells 76 (byL k)]⟩) (k := l.length) ⟨0, l.length, rfl, by omega, by omega, by intro m e hm; omega, by intro m e hm he; have := (List.getElem?_eq_some_iff.1 he).1; omega, by simp [hk]⟩ ?_
 rintro q s ⟨i, j, rfl, hij, hj, hlo, hhi, rfl⟩
 refine yh9 ?_
 by_cases c : i < j
 ·have ci : (i : Int) < j := by omega
  obtain ⟨m, hm⟩ : ∃ m, (i + j) / 2 = m := ⟨_, rfl⟩
  have hmi : i ≤ m := by omega
  have hmj : m < j := by omega
  have hml : m < l.length := by omega
  have hmli : (m : Int) < l.length := by omega
  obtain ⟨e, he⟩ : ∃ e, l[m]? = some e := ⟨_, List.getElem?_eq_getElem hml⟩
  have hge : l[m]'hml = e := by rw [List.getElem?_eq_getElem hml] at he; exact Option.some.inj he
  have h8e := h8 e (List.mem_of_getElem? he)
  have htk8 : List.take 8 (byL k) = byL k := List.take_of_length_le (by simp [hk])
  have w1 : IntKind.i64.wrap ((i : Int) + j) = (i : Int) + j := w64 (by omega) (by omega)
  have w2 : IntKind.u64.wrap ((i : Int) + j) = (i : Int) + j := by
   simp only [IntKind.wrap_u64]
   omega
  have w3 : Int.fdiv ((i : Int) + j) (2 ^ min 1 IntKind.u64.bits) = (m : Nat) := by rw [show (2 : Int) ^ min 1 IntKind.u64.bits = 2 from rfl, Int.fdiv_eq_ediv_of_nonneg _ (by omega)]; omega
  have w4 : IntKind.i64.wrap (m : Nat) = (m : Nat) := w64 (by omega) (by omega)
  have w5 : IntKind.i64.wrap ((m : Int) + 1) = ((m + 1 : Nat) : Int) := by rw [w64 (by omega) (by omega)]; omega
  refine yr9 [0, 2, 4, 8, 9, 10, 17] (by simp [c, ci]; rfl) ?_
  refine yt9 (t := true) (by simp [c, ci]) (fun h => ?_) (fun h => by simp at h)
  refine yj9 ?_
  refine yl9 ?_
  refine yr9 [0, 2, 4, 8, 9, 10, 11] (by simp [w1, w2, w3, w4]; rfl) ?_
  have hcmp := uc9 e k h8e hk
  obtain ⟨X, hX⟩ : ∃ X, Lib.compareBytes e.key k = X := ⟨_, rfl⟩
  rw [hX] at hcmp
  simp only [reA] at hcmp
  have hlX : Op.bytesLess e.key k = decide (X < 0) := by rw [less_cmp, hX]
  refine wc9 [0, 2, 4, 8, 9, 10, 11, 31] mx (by decide +kernel) ?_
  refine yp9 6 (by simp [hml, hmli, hk, reA, h8e, htk8, hge]; rfl) rfl ?_
  refine yv9 (by simp) (by first | (simp; done) | (simp; rfl)) hcmp (by simp; rfl) ?_
  refine yn9 (by simp; rfl) ?_
  by_cases hneg : X < 0
  ·have hle : Op.bytesLess e.key k = true := by rw [hlX]; simp [hneg]
   refine yt9 (t := true) (by simp [hneg]) (fun h => ?_) (fun h => by simp at h)
   refine zp9 [0, 2, 4, 8, 9, 10] (by simp [w5]; rfl) ?_
   refine ⟨_, by omega, m + 1, j, rfl, by omega, hj, fun m2 e2 hm2 he2 => ?_, hhi, by simp⟩
   by_cases h2 : m2 = m
   ·subst h2; rw [he] at he2; cases he2; exact hle
   ·exact us9 (pw_less hp (by omega) he2 he) hle
  ·have hle : Op.bytesLess e.key k = false := by rw [hlX]; simp [hneg]
   refine yt9 (t := false) (by simp [hneg]) (fun h => by simp at h) (fun h => ?_)
   refine zp9 [0, 2, 4, 8, 9, 10] (by simp; rfl) ?_
   refine ⟨_, by omega, i, m, rfl, by omega, by omega, hlo, fun m2 e2 hm2 he2 => ?_, by simp⟩
   by_cases h2 : m2 = m
   ·subst h2; rw [he] at he2; cases he2; exact hle
   ·cases hb : Op.bytesLess e2.key k with
    | false => rfl
    | true =>
     have := us9 (pw_less hp (show m < m2 by omega) he he2) hb
     rw [hle] at this
     cases this
 have hie : i = j := by omega
 subst hie
 have hpos : posE l k = i := posE_of (by omega) hlo hhi
 rw [hpos]
 refine yr9 [0, 2, 4, 8, 9, 17] (by simp; rfl) ?_
 refine yt9 (t := false) (by simp) (fun h => by simp at h) (fun h => ?_)
 refine zd9 ?_
 by_cases c2 : i < l.length
 ·have ci : (i : Int) < l.length := by omega
  obtain ⟨e, he⟩ : ∃ e, l[i]? = some e := ⟨_, List.getElem?_eq_getElem c2⟩
  have hge : l[i]'c2 = e := by rw [List.getElem?_eq_getElem c2] at he; exact Option.some.inj he
  have h8e := h8 e (List.mem_of_getElem? he)
  have htk8 : List.take 8 (byL k) = byL k := List.take_of_length_le (by simp [hk])
  have hcmp := uc9 e k h8e hk
  obtain ⟨X, hX⟩ : ∃ X, Lib.compareBytes e.key k = X := ⟨_, rfl⟩
  rw [hX] at hcmp
  simp only [reA] at hcmp
  have hf : fndE l k = (X == 0) := by
   have h9 := eq_cmp e.key k
   rw [hX, decide_eq_decide] at h9
   unfold fndE
   rw [hpos, he, Bool.eq_iff_iff]
   simp [h9]
  refine wc9 [6, 7] mx (by decide +kernel) ?_
  refine yp9 6 (by simp [c2, ci]; rfl) rfl ?_
  refine yp9 5 (by simp [c2, ci, hk, reA, h8e, htk8, hge]; rfl) rfl ?_
  refine yv9 (by simp) (by first | (simp; done) | (simp; rfl)) hcmp (by simp; rfl) ?_
  refine yn9 (by simp; rfl) ?_
  refine yk9 ?_
  repeat (first | refine ys9 ?_ | refine yd9 ?_)
  simp [retQ, hf]
 ·have ci : ¬ (i : Int) < l.length := by omega
  have hf : fndE l k = false := by
   unfold fndE
   rw [hpos, List.getElem?_eq_none (by omega)]
  refine wc9 [6, 7] mx (by decide +kernel) ?_
  refine yp9 6 (by simp [c2, ci]; rfl) rfl ?_
  refine yp9 6 (by simp [c2, ci]; rfl) rfl ?_
  refine yn9 (by simp; rfl) ?_
  refine yk9 ?_
  repeat (first | refine ys9 ?_ | refine yd9 ?_)
  simp [retQ, hf]
theorem bs_callW (l : List RE) (k : List UInt8) (hp : l.Pairwise ltE) (h8 : ∀ e ∈ l, e.key.length = 8) (hk : k.length = 8) (hl : l.length ≤ 1000000000) (H : List AObj) (id cap : Nat) (cs : List AV) (hid : H[id]? = some (.cells 78 cs)) (hcs : CellsRE cs l) (hh : yb9 H.length H = true) : xm9 Tryz.prog 67 [.arr id 0 l.length cap, .agg (byL k), .fn (.func 69) [] []] H fun r h' => r = .tup [.v (.int .i64 (posE l k : Nat)), .v (.bool (fndE l k))] ∧ h' = H := by
 refine zf9 Tryz.func67 rfl (by decide +kernel) (by simp [Tryz.f67]) (rs := [.tmp 6, .tmp 7]) rfl ?_
 rw [show Tryz.f67.ntmps = 49 from rfl]
 have hid1 : id < H.length := (List.getElem?_eq_some_iff.1 hid).1
 have hid2 : (H ++ [AObj.cells 76 (byL k)])[id]? = some (.cells 78 cs) := by rw [List.getElem?_append_left hid1]; exact hid
 refine yr9 [0, 2, 4] (by simp [hk]; rfl) ?_
 refine yr9 [0, 2, 4, 8] (by simp; rfl) ?_
 refine yr9 [0, 2, 4, 8, 9, 10] (by simp; rfl) ?_
 refine yh9 ?_
 refine yl9 ?_
 refine zg9 (fun q s => ∃ i j : Nat, q = j - i ∧ i ≤ j ∧ j ≤ l.length ∧ (∀ m e, m < i → l[m]? = some e → Op.bytesLess e.key k = true) ∧ (∀ m e, j ≤ m → l[m]? = some e → Op.bytesLess e.key k = false) ∧
  s = ⟨49, [(0, .arr id 0 l.length cap), (2, .fn (.func 69) [] []), (4, .loc H.length 0), (8, .v (.int .i64 (l.length : Nat))), (9, .v (.int .i64 (i : Nat))), (10, .v (.int .i64 (j : Nat)))], H ++ [.cells 76 (byL k)]⟩) (k := l.length) ⟨0, l.length, rfl, by omega, by omega, by intro m e hm; omega, by intro m e hm he; have := (List.getElem?_eq_some_iff.1 he).1; omega, by simp [hk]⟩ ?_
 rintro q s ⟨i, j, rfl, hij, hj, hlo, hhi, rfl⟩
 refine yh9 ?_
 by_cases c : i < j
 ·have ci : (i : Int) < j := by omega
  obtain ⟨m, hm⟩ : ∃ m, (i + j) / 2 = m := ⟨_, rfl⟩
  have hmi : i ≤ m := by omega
  have hmj : m < j := by omega
  have hml : m < l.length := by omega
  have hmli : (m : Int) < l.length := by omega
  obtain ⟨e, he⟩ : ∃ e, l[m]? = some e := ⟨_, List.getElem?_eq_getElem hml⟩
  have hge : l[m]'hml = e := by rw [List.getElem?_eq_getElem hml] at he; exact Option.some.inj he
  have h8e := h8 e (List.mem_of_getElem? he)
  have htk8 : List.take 8 (byL k) = byL k := List.take_of_length_le (by simp [hk])
  have w1 : IntKind.i64.wrap ((i : Int) + j) = (i : Int) + j := w64 (by omega) (by omega)
  have w2 : IntKind.u64.wrap ((i : Int) + j) = (i : Int) + j := by
   simp only [IntKind.wrap_u64]
   omega
  have w3 : Int.fdiv ((i : Int) + j) (2 ^ min 1 IntKind.u64.bits) = (m : Nat) := by rw [show (2 : Int) ^ min 1 IntKind.u64.bits = 2 from rfl, Int.fdiv_eq_ediv_of_nonneg _ (by omega)]; omega
  have w4 : IntKind.i64.wrap (m : Nat) = (m : Nat) := w64 (by omega) (by omega)
  have w5 : IntKind.i64.wrap ((m : Int) + 1) = ((m + 1 : Nat) : Int) := by rw [w64 (by omega) (by omega)]; omega
  obtain ⟨hld1, hld2⟩ := hcs m e he
  refine yr9 [0, 2, 4, 8, 9, 10, 17] (by simp [c, ci]; rfl) ?_
  refine yt9 (t := true) (by simp [c, ci]) (fun h => ?_) (fun h => by simp at h)
  refine yj9 ?_
  refine yl9 ?_
  refine yr9 [0, 2, 4, 8, 9, 10, 11] (by simp [w1, w2, w3, w4]; rfl) ?_
  have hcmp := uc9 e k h8e hk
  obtain ⟨X, hX⟩ : ∃ X, Lib.compareBytes e.key k = X := ⟨_, rfl⟩
  rw [hX] at hcmp
  simp only [reA] at hcmp
  have hlX : Op.bytesLess e.key k = decide (X < 0) := by rw [less_cmp, hX]
  refine wc9 [0, 2, 4, 8, 9, 10, 11, 31] mx (by decide +kernel) ?_
  refine yp9 6 (by simp [hml, hmli, hk, reA, h8e, htk8, hld1, hld2, hid2]; rfl) rfl ?_
  refine yv9 (by simp) (by first | (simp; done) | (simp; rfl)) hcmp (by simp; rfl) ?_
  refine yn9 (by simp; rfl) ?_
  by_cases hneg : X < 0
  ·have hle : Op.bytesLess e.key k = true := by rw [hlX]; simp [hneg]
   refine yt9 (t := true) (by simp [hneg]) (fun h => ?_) (fun h => by simp at h)
   refine zp9 [0, 2, 4, 8, 9, 10] (by simp [w5]; rfl) ?_
   refine ⟨_, by omega, m + 1, j, rfl, by omega, hj, fun m2 e2 hm2 he2 => ?_, hhi, by simp⟩
   by_cases h2 : m2 = m
   ·subst h2; rw [he] at he2; cases he2; exact hle
   ·exact us9 (pw_less hp (by omega) he2 he) hle
  ·have hle : Op.bytesLess e.key k = false := by rw [hlX]; simp [hneg]
   refine yt9 (t := false) (by simp [hneg]) (fun h => by simp at h) (fun h => ?_)
   refine zp9 [0, 2, 4, 8, 9, 10] (by simp; rfl) ?_
   refine ⟨_, by omega, i, m, rfl, by omega, by omega, hlo, fun m2 e2 hm2 he2 => ?_, by simp⟩
   by_cases h2 : m2 = m
   ·subst h2; rw [he] at he2; cases he2; exact hle
   ·cases hb : Op.bytesLess e2.key k with
    | false => rfl
    | true =>
     have := us9 (pw_less hp (show m < m2 by omega) he he2) hb
     rw [hle] at this
     cases this
 have hie : i = j := by omega
 subst hie
 have hpos : posE l k = i := posE_of (by omega) hlo hhi
 rw [hpos]
 refine yr9 [0, 2, 4, 8, 9, 17] (by simp; rfl) ?_
 refine yt9 (t := false) (by simp) (fun h => by simp at h) (fun h => ?_)
 refine zd9 ?_
 by_cases c2 : i < l.length
 ·have ci : (i : Int) < l.length := by omega
  obtain ⟨e, he⟩ : ∃ e, l[i]? = some e := ⟨_, List.getElem?_eq_getElem c2⟩
  have hge : l[i]'c2 = e := by rw [List.getElem?_eq_getElem c2] at he; exact Option.some.inj he
  have h8e := h8 e (List.mem_of_getElem? he)
  have htk8 : List.take 8 (byL k) = byL k := List.take_of_length_le (by simp [hk])
  obtain ⟨hld1, hld2⟩ := hcs i e he
  have hcmp := uc9 e k h8e hk
  obtain ⟨X, hX⟩ : ∃ X, Lib.compareBytes e.key k = X := ⟨_, rfl⟩
  rw [hX] at hcmp
  simp only [reA] at hcmp
  have hf : fndE l k = (X == 0) := by
   have h9 := eq_cmp e.key k
   rw [hX, decide_eq_decide] at h9
   unfold fndE
   rw [hpos, he, Bool.eq_iff_iff]
   simp [h9]
  refine wc9 [6, 7] mx (by decide +kernel) ?_
  refine yp9 6 (by simp [c2, ci]; rfl) rfl ?_
  refine yp9 5 (by simp [c2, ci, hk, reA, h8e, htk8, hld1, hld2, hid2]; rfl) rfl ?_
  refine yv9 (by simp) (by first | (simp; done) | (simp; rfl)) hcmp (by simp; rfl) ?_
  refine yn9 (by simp; rfl) ?_
  refine yk9 ?_
  repeat (first | refine ys9 ?_ | refine yd9 ?_)
  simp [retW, hf]
  exact ⟨_, _, .inr ⟨rfl, rfl⟩, H.length, by omega, by simp, by simp [AV.under, AV.underL], by simpa using hh, rfl, by simp⟩
 ·have ci : ¬ (i : Int) < l.length := by omega
  have hf : fndE l k = false := by
   unfold fndE
   rw [hpos, List.getElem?_eq_none (by omega)]
  refine wc9 [6, 7] mx (by decide +kernel) ?_
  refine yp9 6 (by simp [c2, ci]; rfl) rfl ?_
  refine yp9 6 (by simp [c2, ci]; rfl) rfl ?_
  refine yn9 (by simp; rfl) ?_
  refine yk9 ?_
  repeat (first | refine ys9 ?_ | refine yd9 ?_)
  simp [retW, hf]
  exact ⟨_, _, .inr ⟨rfl, rfl⟩, H.length, by omega, by simp, by simp [AV.under, AV.underL], by simpa using hh, rfl, by simp⟩
def findR (l : List RE) (s : List UInt8) : Nat × Bool := if symM s then (posE l (padK s), fndE l (padK s)) else (0, false)
theorem find_sound (l : List RE) (n : Nat) (s : List UInt8) (hs : s.length ≤ 1000000000) (hp : l.Pairwise ltE) (h8 : ∀ e ∈ l, e.key.length = 8) (hl : l.length ≤ 1000000000) : Sound Tryz.prog 31 [.agg [.lst .any 10 (reL l), .v (.int .i64 (n : Nat))], strB s] (.tup [.v (.int .i64 ((findR l s).1 : Nat)), .v (.bool (findR l s).2)]) := by
 refine yc9 Tryz.func31 rfl (by decide +kernel) (by simp [Tryz.f31]) (by simp [AV.rfL, AV.rf, strB]) (by simp [AV.tlL, AV.tl, strB]) (rs := [.tmp 4, .tmp 5]) rfl ?_
 rw [show Tryz.f31.ntmps = 16 from rfl]
 have hv := yg8 s (by omega)
 simp only [strB] at hv ⊢
 refine yr9 [1, 2] (by simp; rfl) ?_
 refine yh9 ?_
 refine W_rK [1, 2, 8] ?_
 refine yq9 1 (by simp; rfl) rfl ?_
 refine yf9 (by simp) (by first | (simp; done) | (simp; rfl)) hv (by simp; rfl) ?_
 refine yw9 (by simp; rfl) ?_
 cases hy : symM s with
 | false =>
  refine yt9 rfl (fun h => ?_) (fun h => by simp at h)
  refine yr9 [4, 5] (by simp; rfl) ?_
  refine yk9 ?_
  repeat (first | refine ys9 ?_ | refine yd9 ?_)
  simp [retQ, findR, hy]
 | true =>
  have hk := xm8 s hy
  have hkl := yh8 (uj9 hy).2.2
  have hbs := bs_sound l (padK s) hp h8 hkl hl
  rw [findR, hy, if_pos rfl]
  obtain ⟨K, hK⟩ : ∃ K, padK s = K := ⟨_, rfl⟩
  simp only [strB, hK] at hk hbs ⊢
  refine yt9 rfl (fun h => by simp at h) (fun h => ?_)
  refine yj9 ?_
  refine wc9 [4, 5] mx (by decide +kernel) ?_
  refine yp9 3 (by simp; rfl) rfl ?_
  refine yv9 (by simp) (by first | (simp; done) | (simp; rfl)) hk (by simp; rfl) ?_
  refine yv9 (by simp) (by first | (simp; done) | (simp; rfl)) hbs (by simp; rfl) ?_
  refine yn9 (by simp; rfl) ?_
  refine yk9 ?_
  repeat (first | refine ys9 ?_ | refine yd9 ?_)
  simp [retQ]
theorem find_callW (l : List RE) (n : Nat) (s : List UInt8) (hs : s.length ≤ 1000000000) (hp : l.Pairwise ltE) (h8 : ∀ e ∈ l, e.key.length = 8) (hl : l.length ≤ 1000000000)
  (H : List AObj) (id cap : Nat) (cs : List AV) (hid : H[id]? = some (.cells 78 cs)) (hcs : CellsRE cs l) (hh : yb9 H.length H = true) :
  xm9 Tryz.prog 31 [.agg [.arr id 0 l.length cap, .v (.int .i64 (n : Nat))], strB s] H fun r h' => r = .tup [.v (.int .i64 ((findR l s).1 : Nat)), .v (.bool (findR l s).2)] ∧ h' = H := by
 refine zf9 Tryz.func31 rfl (by decide +kernel) (by simp [Tryz.f31]) (rs := [.tmp 4, .tmp 5]) rfl ?_
 rw [show Tryz.f31.ntmps = 16 from rfl]
 have hid1 : id < H.length := (List.getElem?_eq_some_iff.1 hid).1
 have hv := yg8 s (by omega)
 simp only [strB] at hv ⊢
 refine yr9 [1, 2] (by simp; rfl) ?_
 refine yh9 ?_
 refine W_rK [1, 2, 8] ?_
 refine yq9 1 (by simp; rfl) rfl ?_
 refine yf9 (by simp) (by first | (simp; done) | (simp; rfl)) hv (by simp; rfl) ?_
 refine yw9 (by simp; rfl) ?_
 cases hy : symM s with
 | false =>
  refine yt9 rfl (fun h => ?_) (fun h => by simp at h)
  refine yr9 [4, 5] (by simp; rfl) ?_
  refine yk9 ?_
  repeat (first | refine ys9 ?_ | refine yd9 ?_)
  simp [retW, findR, hy]
  exact ⟨_, _, .inr ⟨rfl, rfl⟩, H.length, by omega, by simp, by simp [AV.under, AV.underL], by simpa using hh, rfl, by simp⟩
 | true =>
  have hk := xm8 s hy
  have hkl := yh8 (uj9 hy).2.2
  have hid2 : (H ++ [AObj.cells 70 [.arr id 0 l.length cap, .v (.int .i64 (n : Nat))]])[id]? = some (.cells 78 cs) := by rw [List.getElem?_append_left hid1]; exact hid
  have hbs := bs_callW l (padK s) hp h8 hkl hl (H ++ [AObj.cells 70 [.arr id 0 l.length cap, .v (.int .i64 (n : Nat))]]) id cap cs hid2 hcs (by
   rw [zn9]
   simp [yb9, AObj.under, AV.under, AV.underL]
   exact ⟨wp9 (by omega) _ hh, by omega⟩)
  rw [findR, hy, if_pos rfl]
  obtain ⟨K, hK⟩ : ∃ K, padK s = K := ⟨_, rfl⟩
  simp only [strB, hK] at hk hbs ⊢
  refine yt9 rfl (fun h => by simp at h) (fun h => ?_)
  refine yj9 ?_
  refine W_rmK 4 5 [4, 5] mx (by decide +kernel) ?_
  refine yp9 3 (by simp; rfl) rfl ?_
  refine yv9 (by simp) (by first | (simp; done) | (simp; rfl)) hk (by simp; rfl) ?_
  refine zm9 (f := 67) (args := [.arr id 0 l.length cap, .agg (byL K), .fn (.func 69) [] []]) (by simp) (by simp [xn9, zc9]) (hbs.mono ?_)
  rintro r h' ⟨rfl, rfl⟩
  refine ⟨_, by simp; rfl, ?_⟩
  refine yn9 (by simp; rfl) ?_
  refine yk9 ?_
  repeat (first | refine ys9 ?_ | refine yd9 ?_)
  simp [retW]
  exact ⟨_, _, .inr ⟨rfl, rfl⟩, H.length, by omega, by simp, by simp [AV.under, AV.underL], by simpa using hh, rfl, by simp⟩
theorem vn9 (l : List RE) (n : Nat) (hn : n ≤ 1000000000) : Sound Tryz.prog 38 [.agg [.lst .any 10 (reL l), .v (.int .i64 (n : Nat))]] (.v (.int .i64 ((n + 5) / 6 : Nat))) := by
 refine yc9 Tryz.func38 rfl (by decide +kernel) (by simp [Tryz.f38]) (by simp [AV.rfL, AV.rf]) (by simp [AV.tlL, AV.tl]) (rs := [.tmp 2]) rfl ?_
 rw [show Tryz.f38.ntmps = 8 from rfl]
 have w1 : IntKind.i64.wrap ((n : Int) + 6) = (n : Int) + 6 := w64 (by omega) (by omega)
 have w2 : IntKind.i64.wrap ((n : Int) + 6 - 1) = ((n + 5 : Nat) : Int) := by rw [w64 (by omega) (by omega)]; omega
 have w3 : Int.tdiv ((n + 5 : Nat) : Int) 6 = (((n + 5) / 6 : Nat) : Int) := by rw [Int.tdiv_eq_ediv_of_nonneg (by omega)]; omega
 have w4 : IntKind.i64.wrap (((n + 5) / 6 : Nat) : Int) = (((n + 5) / 6 : Nat) : Int) := w64 (by omega) (by omega)
 obtain ⟨m, hm⟩ : ∃ m, n + 5 = m := ⟨_, rfl⟩
 rw [hm] at w2 w3 w4 ⊢
 obtain ⟨q, hq⟩ : ∃ q, m / 6 = q := ⟨_, rfl⟩
 rw [hq] at w3 w4 ⊢
 refine yr9 [1] (by simp; rfl) ?_
 refine yr9 [2] (by simp [w1, w2, w3, w4]; rfl) ?_
 refine yk9 ?_
 repeat (first | refine ys9 ?_ | refine yd9 ?_)
 simp [retQ]
theorem tracks_callW (n : Nat) (hn : n ≤ 1000000000) (H : List AObj) (hh : yb9 H.length H = true) (id len cap : Nat) : xm9 Tryz.prog 38 [.agg [.arr id 0 len cap, .v (.int .i64 (n : Nat))]] H fun r h' => r = .v (.int .i64 ((n + 5) / 6 : Nat)) ∧ h' = H := by
 refine zf9 Tryz.func38 rfl (by decide +kernel) (by simp [Tryz.f38]) (rs := [.tmp 2]) rfl ?_
 rw [show Tryz.f38.ntmps = 8 from rfl]
 have w1 : IntKind.i64.wrap ((n : Int) + 6) = (n : Int) + 6 := w64 (by omega) (by omega)
 have w2 : IntKind.i64.wrap ((n : Int) + 6 - 1) = ((n + 5 : Nat) : Int) := by rw [w64 (by omega) (by omega)]; omega
 have w3 : Int.tdiv ((n + 5 : Nat) : Int) 6 = (((n + 5) / 6 : Nat) : Int) := by rw [Int.tdiv_eq_ediv_of_nonneg (by omega)]; omega
 have w4 : IntKind.i64.wrap (((n + 5) / 6 : Nat) : Int) = (((n + 5) / 6 : Nat) : Int) := w64 (by omega) (by omega)
 obtain ⟨m, hm⟩ : ∃ m, n + 5 = m := ⟨_, rfl⟩
 rw [hm] at w2 w3 w4 ⊢
 obtain ⟨q, hq⟩ : ∃ q, m / 6 = q := ⟨_, rfl⟩
 rw [hq] at w3 w4 ⊢
 refine yr9 [1] (by simp; rfl) ?_
 refine yr9 [2] (by simp [w1, w2, w3, w4]; rfl) ?_
 refine yk9 ?_
 repeat (first | refine ys9 ?_ | refine yd9 ?_)
 simp [retW]
 exact ⟨_, _, .inr ⟨rfl, rfl⟩, H.length, by omega, by simp, by simp [AV.under, AV.underL], by simpa using hh, rfl, by simp⟩
def partM (d : Dcb) : Bool := (d.org == 2) && (xs9 d == 0)
theorem part_sound (d : Dcb) : Sound Tryz.prog 30 [dcbA d] (.v (.bool (partM d))) := by
 refine yc9 Tryz.func30 rfl (by decide +kernel) (by simp [Tryz.f30]) rfl rfl (rs := [.tmp 2]) rfl ?_
 rw [show Tryz.f30.ntmps = 11 from rfl]
 have hc := check_sound d
 refine yr9 [1] (by simp; rfl) ?_
 by_cases h : d.org = 2
 ·have h2 : (d.org == 2) = true := by simpa using h
  refine W_rK [2] ?_
  refine yq9 5 (by simp [h2]; rfl) rfl ?_
  refine yf9 (by simp) (by first | (simp; done) | (simp; rfl)) hc (by simp; rfl) ?_
  refine yw9 (by simp; rfl) ?_
  refine yk9 ?_
  repeat (first | refine ys9 ?_ | refine yd9 ?_)
  simp [retQ, partM, h2]
 ·have h2 : (d.org == 2) = false := by simpa using h
  refine yr9 [2] (by simp [h2]; rfl) ?_
  refine yk9 ?_
  repeat (first | refine ys9 ?_ | refine yd9 ?_)
  simp [retQ, partM, h2]
end Go.AM
namespace Go.AM
open Go.RowKit Go.Proofs
set_option linter.unusedSimpArgs false
set_option linter.unusedVariables false
set_option maxHeartbeats 8000000
set_option maxRecDepth 20000
theorem ogoE_at : ∀ {l : List RE} {p : Option (List UInt8)}, ogoE p l = true ↔ ∀ (i : Nat) e, l[i]? = some e → symM (nmM e.key) = true ∧ (∀ k, (if i = 0 then p else (l[i - 1]?).map (·.key)) = some k → Op.bytesLess k e.key = true)
 | [], p => by cases p <;> simp [ogoE]
 | x :: l, p => by
  rw [show ogoE p (x :: l) = (symM (nmM x.key) && ((match p with | none => true | some k => Op.bytesLess k x.key) && ogoE (some x.key) l)) by cases p <;> rfl, Bool.and_eq_true, Bool.and_eq_true, ogoE_at (p := some x.key)]
  constructor
  ·rintro ⟨h1, h2, h3⟩ i e he
   cases i with
   | zero =>
    simp at he
    subst he
    refine ⟨h1, fun k hk => ?_⟩
    simp at hk
    subst hk
    exact h2
   | succ i =>
    obtain ⟨a, b⟩ := h3 i e (by simpa using he)
    refine ⟨a, fun k hk => b k ?_⟩
    rw [if_neg (by omega), Nat.add_sub_cancel] at hk
    cases i with
    | zero => simpa using hk
    | succ i => rw [if_neg (by omega)]; simpa using hk
  ·intro h
   refine ⟨(h 0 x rfl).1, ?_, fun i e he => ?_⟩
   ·cases p with
    | none => rfl
    | some k => exact (h 0 x rfl).2 k rfl
   ·obtain ⟨a, b⟩ := h (i + 1) e (by simpa using he)
    refine ⟨a, fun k hk => b k ?_⟩
    rw [if_neg (by omega), Nat.add_sub_cancel]
    cases i with
    | zero => simpa using hk
    | succ i => rw [if_neg (by omega)] at hk; simpa using hk
theorem ordE_at {l : List RE} : ordE l = true ↔ ∀ (i : Nat) e, l[i]? = some e → symM (nmM e.key) = true ∧ (∀ d, 0 < i → l[i - 1]? = some d → Op.bytesLess d.key e.key = true) := by
 rw [ordE, ogoE_at]
 constructor
 ·intro h i e he
  obtain ⟨a, b⟩ := h i e he
  refine ⟨a, fun d hi hd => b _ ?_⟩
  rw [if_neg (by omega), hd]
  rfl
 ·intro h i e he
  obtain ⟨a, b⟩ := h i e he
  refine ⟨a, fun k hk => ?_⟩
  by_cases hi : i = 0
  ·rw [if_pos hi] at hk; cases hk
  ·rw [if_neg hi] at hk
   obtain ⟨d, hd, rfl⟩ := Option.map_eq_some_iff.1 hk
   exact b d (by omega) hd
theorem ordered_sound (l : List RE) (n : Nat) (h8 : ∀ e ∈ l, e.key.length = 8) (hl : l.length ≤ 1000000000) : Sound Tryz.prog 63 [.agg [.lst .any 10 (reL l), .v (.int .i64 (n : Nat))]] (.v (.bool (ordE l))) := by
 refine yc9 Tryz.func63 rfl (by decide +kernel) (by simp [Tryz.f63]) (by simp [AV.rfL, AV.rf]) (by simp [AV.tlL, AV.tl]) (rs := [.tmp 2]) rfl ?_
 rw [show Tryz.f63.ntmps = 34 from rfl]
 refine yr9 [1] (by simp; rfl) ?_
 refine yh9 ?_
 refine yr9 [1, 6, 7, 8] (by simp; rfl) ?_
 refine yl9 ?_
 refine zg9 (fun q s => ∃ i : Nat, q = l.length - i ∧ i ≤ l.length ∧ (∀ (m : Nat) e, m < i → l[m]? = some e → symM (nmM e.key) = true ∧ (∀ d, 0 < m → l[m - 1]? = some d → Op.bytesLess d.key e.key = true)) ∧
  s = ⟨34, [(1, .loc 0 0), (6, .lst .any 10 (reL l)), (7, .v (.int .i64 (l.length : Nat))), (8, .v (.int .i64 (i : Nat)))], [.cells 70 [.lst .any 10 (reL l), .v (.int .i64 (n : Nat))]]⟩) (k := l.length) ⟨0, rfl, by omega, by intro m e hm; omega, by simp⟩ ?_
 rintro q s ⟨i, rfl, hi, hall, rfl⟩
 by_cases c : i < l.length
 ·have ci : (i : Int) < l.length := by omega
  have wi := w64 (n := (i : Int) + 1) (by omega) (by omega)
  obtain ⟨e, he⟩ : ∃ e, l[i]? = some e := ⟨_, List.getElem?_eq_getElem c⟩
  have hge : l[i]'c = e := by rw [List.getElem?_eq_getElem c] at he; exact Option.some.inj he
  have he8 := h8 e (List.mem_of_getElem? he)
  have htk := take_key he8
  have htk10 : List.take 10 (reC e) = reC e := List.take_of_length_le (by rw [zl9 he8]; omega)
  have hnm := name_sound e he8
  simp only [reA] at hnm
  have hnl : (nmM e.key).length ≤ 8 := by
   have h1 : (qn9 e.key).length ≤ e.key.length := by
    obtain ⟨k, hk⟩ := trim_split e.key
    have := congrArg List.length hk
    rw [List.length_append] at this
    omega
   rw [nmM, decM, List.length_map]
   omega
  have hva := yg8 (nmM e.key) (by omega)
  obtain ⟨V, hV⟩ : ∃ V, symM (nmM e.key) = V := ⟨_, rfl⟩
  rw [hV] at hva
  obtain ⟨S, hS⟩ : ∃ S, strB (nmM e.key) = S := ⟨_, rfl⟩
  have hSv : ∃ u, S = .v u := ⟨_, hS.symm⟩
  rw [hS] at hnm hva
  obtain ⟨u, rfl⟩ := hSv
  refine yr9 [1, 6, 7, 8, 9] (by simp [c, ci]; rfl) ?_
  refine yh9 ?_
  refine yt9 (t := true) (by simp [c, ci]) (fun h => ?_) (fun h => by simp at h)
  refine yj9 ?_
  refine yh9 ?_
  refine yl9 ?_
  refine yr9 [1, 6, 7, 8, 3, 4] (by simp [c, ci, hge, reA, he8, yg9]; rfl) ?_
  cases V with
  | false =>
   have hbad : ordE l = false := by
    cases ho : ordE l with
    | false => rfl
    | true => rw [((ordE_at.1 ho) i e he).1] at hV; cases hV
   refine wc9 [1, 6, 7, 8, 32] mx (by decide +kernel) ?_
   refine yp9 1 (by simp [he8, htk10]; rfl) rfl ?_
   refine yv9 (by simp) (by first | (simp [htk10]; done) | (simp [htk10]; rfl)) hnm (by simp; rfl) ?_
   refine yv9 (by simp) (by first | (simp; done) | (simp; rfl)) hva (by simp; rfl) ?_
   refine yn9 (by simp; rfl) ?_
   refine yt9 rfl (fun h => ?_) (fun h => by simp at h)
   refine yr9 [2] (by simp; rfl) ?_
   refine yk9 ?_
   repeat (first | refine ys9 ?_ | refine yd9 ?_)
   simp [retQ, hbad]
  | true =>
  by_cases h0 : i = 0
  ·have hall2 : ∀ (m : Nat) e, m < 0 + 1 → l[m]? = some e → symM (nmM e.key) = true ∧ (∀ d, 0 < m → l[m - 1]? = some d → Op.bytesLess d.key e.key = true) := by
    intro m x hm hx
    have : m = 0 := by omega
    subst this
    rw [← h0, he] at hx
    obtain rfl := Option.some.inj hx
    exact ⟨hV, fun d hd => by omega⟩
   subst h0
   refine wc9 [1, 6, 7, 8, 32] mx (by decide +kernel) ?_
   refine yp9 1 (by simp [he8, htk10]; rfl) rfl ?_
   refine yv9 (by simp) (by first | (simp [htk10]; done) | (simp [htk10]; rfl)) hnm (by simp; rfl) ?_
   refine yv9 (by simp) (by first | (simp; done) | (simp; rfl)) hva (by simp; rfl) ?_
   refine yn9 (by simp; rfl) ?_
   refine yt9 rfl (fun h => by simp at h) (fun h => ?_)
   refine yj9 ?_
   refine ug9 1 (by simp) (by simp) (by simp [zj9, AV.under, AV.underL]) (by simp [yb9, AObj.under, AV.under, AV.underL, reC]) ?_
   refine zp9 [1, 6, 7, 8] (by simp [show IntKind.i64.wrap 1 = 1 from by decide]; rfl) ?_
   exact ⟨_, by omega, 0 + 1, rfl, by omega, hall2, by simp⟩
  ·have wd := w64 (n := (i : Int) - 1) (by omega) (by omega)
   have hp0 : 0 < i := by omega
   have hp6 : (1 : Int) ≤ (i : Int) := by omega
   have hp1 : (0 : Int) < (i : Int) := by omega
   have hp2 : (0 : Int) ≤ (i : Int) - 1 := by omega
   have hp3 : (i : Int) - 1 < l.length := by omega
   have hp4 : ((i : Int) - 1).toNat = i - 1 := by omega
   have hp5 : i - 1 < l.length := by omega
   obtain ⟨d, hd⟩ : ∃ d, l[i - 1]? = some d := ⟨_, List.getElem?_eq_getElem hp5⟩
   have hgd : l[i - 1]'hp5 = d := by rw [List.getElem?_eq_getElem hp5] at hd; exact Option.some.inj hd
   have hd8 := h8 d (List.mem_of_getElem? hd)
   have hcs := uc9 d e.key hd8 he8
   simp only [reA] at hcs
   refine wc9 [1, 6, 7, 8, 32] mx (by decide +kernel) ?_
   refine yp9 1 (by simp [he8, htk10]; rfl) rfl ?_
   refine yv9 (by simp) (by first | (simp [htk10]; done) | (simp [htk10]; rfl)) hnm (by simp; rfl) ?_
   refine yv9 (by simp) (by first | (simp; done) | (simp; rfl)) hva (by simp; rfl) ?_
   refine yp9 13 (by simp [hp0, hp1, hp2, hp3, hp4, hp5, hp6, wd, hgd, reA, htk, hd8, he8, zl9]; rfl) rfl ?_
   refine yv9 (by simp) (by first | (simp; done) | (simp; rfl)) hcs (by simp; rfl) ?_
   by_cases hcmp : Lib.compareBytes d.key e.key < 0
   ·have hn : ¬ (0 : Int) ≤ Lib.compareBytes d.key e.key := by omega
    have hall2 : ∀ (m : Nat) e, m < i + 1 → l[m]? = some e → symM (nmM e.key) = true ∧ (∀ d, 0 < m → l[m - 1]? = some d → Op.bytesLess d.key e.key = true) := by
     intro m x hm hx
     by_cases hm2 : m < i
     ·exact hall m x hm2 hx
     ·have : m = i := by omega
      subst this
      rw [he] at hx
      obtain rfl := Option.some.inj hx
      exact ⟨hV, fun d2 _ hd2 => by rw [hd] at hd2; obtain rfl := Option.some.inj hd2; rw [less_cmp]; exact decide_eq_true hcmp⟩
    refine yn9 (by simp [hn]; rfl) ?_
    refine yt9 rfl (fun h => by simp at h) (fun h => ?_)
    refine yj9 ?_
    refine ug9 1 (by simp) (by simp) (by simp [zj9, AV.under, AV.underL]) (by simp [yb9, AObj.under, AV.under, AV.underL, reC]) ?_
    refine zp9 [1, 6, 7, 8] (by simp [wi]; rfl) ?_
    exact ⟨_, by omega, i + 1, rfl, by omega, hall2, by simp⟩
   ·have hn : (0 : Int) ≤ Lib.compareBytes d.key e.key := by omega
    have hbad : ordE l = false := by
     cases ho : ordE l with
     | false => rfl
     | true =>
      have := ((ordE_at.1 ho) i e he).2 d (by omega) hd
      rw [less_cmp] at this
      exact absurd (of_decide_eq_true this) hcmp
    refine yn9 (by simp [hn]; rfl) ?_
    refine yt9 rfl (fun h => ?_) (fun h => by simp at h)
    refine yr9 [2] (by simp; rfl) ?_
    refine yk9 ?_
    repeat (first | refine ys9 ?_ | refine yd9 ?_)
    simp [retQ, hbad]
 have hie : i = l.length := by omega
 have hok : ordE l = true := by
  rw [ordE_at]
  intro m e he
  have hm : m < l.length := by
   rcases Nat.lt_or_ge m l.length with h | h
   ·exact h
   ·rw [List.getElem?_eq_none h] at he; cases he
  exact hall m e (by omega) he
 have nlt : ¬ (i : Int) < l.length := by omega
 refine yr9 [1, 6, 7, 8, 9] (by simp [nlt]; rfl) ?_
 refine yh9 ?_
 refine yt9 (t := false) (by simp [nlt]) (fun h => by simp at h) (fun h => ?_)
 refine zd9 ?_
 repeat (first | refine on_exit ?_ | refine in_exit ?_)
 refine yr9 [2] (by simp; rfl) ?_
 refine yk9 ?_
 repeat (first | refine ys9 ?_ | refine yd9 ?_)
 simp [retQ, hok]
end Go.AM
namespace Go.AM
open Go.RowKit Go.Proofs
set_option linter.unusedSimpArgs false
set_option linter.unusedVariables false
set_option maxHeartbeats 4000000
set_option maxRecDepth 20000
theorem mul8 : Sound Tryz.prog 136 [.v (.int .u64 1), .v (.int .u64 8)] (.tup [.v (.int .u64 0), .v (.int .u64 8)]) := sound_exec mx 100 (by kernel_rfl)
@[simp] theorem underL_any (m k : Nat) : AV.underL m (List.replicate k .any) = true := by induction k <;> simp_all [List.replicate_succ, AV.underL, AV.under]
@[simp] theorem underL_app31 (m : Nat) : ∀ (a b : List AV), AV.underL m (a ++ b) = (AV.underL m a && AV.underL m b)
 | [], b => rfl
 | o :: a, b => by simp only [List.cons_append, AV.underL, underL_app31 m a b, Bool.and_assoc]
def kf9 (l : List UInt8) (k : Nat) : List AV := byL l ++ List.replicate k .any
theorem room_len (l : List UInt8) (k : Nat) : (kf9 l k).length = l.length + k := by simp [kf9]
theorem room_app (l m : List UInt8) (k : Nat) (h : m.length ≤ k) : yg9 (kf9 l k) l.length (byL m) = kf9 (l ++ m) (k - m.length) := by
 simp [yg9, kf9, xc9, List.take_append, List.drop_append]
theorem repeat_callW (n : Nat) (hn : n = 8) (H : List AObj) (hh : yb9 (H.length + 1) H = true) :
  xm9 Tryz.prog 117 [.lst .any 1 [.v (.int .u8 255)], .v (.int .i64 n)] H fun r h' => ∃ k, r = .arr H.length 0 n n ∧ h' = H ++ [.cells 5 (kf9 (List.replicate n 255) k)] := by
 refine zf9 Tryz.func117 rfl (by decide +kernel) (by simp [Tryz.f117]) (rs := [.tmp 4]) rfl ?_
 rw [show Tryz.f117.ntmps = 77 from rfl]
 have hmul : Sound Tryz.prog 136 [.v (.int .u64 1), .v (.int .u64 n)] (.tup [.v (.int .u64 0), .v (.int .u64 n)]) := by
  subst hn
  exact mul8
 have hnl : n ≤ 80 := by omega
 have hn0 : 0 < n := by omega
 have c1 : ¬ ((n : Int) = 0) := by omega
 have c2 : ¬ ((n : Int) < 0) := by omega
 have c3 : ¬ ((8192 : Int) < (n : Int)) := by omega
 have c4 : ¬ ((9223372036854775807 : Int) < (n : Int)) := by omega
 have w1 := w64 (n := (n : Int)) (by omega) (by omega)
 have w2 : IntKind.u64.wrap (n : Int) = n := by
  have h64 : ∀ k : Nat, k ≤ 80 → IntKind.u64.wrap (k : Int) = k := by decide +kernel
  exact h64 n hnl
 have w3 : IntKind.u64.wrap 1 = 1 := by decide +kernel
 refine yr9 [0, 1] (by simp; rfl) ?_
 refine yh9 ?_
 refine yr9 [0, 1, 13] (by simp [c1]; rfl) ?_
 refine yt9 rfl (fun h => by simp at h <;> omega) (fun h => ?_)
 refine yj9 ?_
 refine yh9 ?_
 refine yr9 [0, 1, 16] (by simp [c2]; rfl) ?_
 refine yt9 rfl (fun h => by simp at h <;> omega) (fun h => ?_)
 refine yj9 ?_
 refine W_rK [0, 5, 6] ?_
 refine yq9 5 (by simp [w2, w3]; rfl) rfl ?_
 refine yf9 (by simp) (by simp; rfl) hmul (by simp; rfl) ?_
 refine yw9 (by simp; rfl) ?_
 refine yh9 ?_
 refine yr9 [0, 6, 32] (by simp [c4]; rfl) ?_
 refine yt9 rfl (fun h => by simp at h <;> omega) (fun h => ?_)
 refine yj9 ?_
 refine yr9 [0, 7] (by simp [w1]; rfl) ?_
 refine yh9 ?_
 refine W_cF [0, 7, 38] (by simp; rfl) rfl ?_
 refine yj9 ?_
 refine yr9 [0, 7, 8] (by simp; rfl) ?_
 refine yh9 ?_
 refine yr9 [0, 7, 8, 42] (by simp [c3]; rfl) ?_
 refine yt9 rfl (fun h => by simp at h <;> omega) (fun h => ?_)
 refine yj9 ?_
 refine W_rGK [0, 7, 8, 9] ?_
 refine kt9 1 _ _ ?_
 refine yw9 (by simp; rfl) ?_
 refine runG_W rfl ?_
 refine stepW_makeNoZero (f := 137) (fn := Tryz.f137) (ps := #[3]) (k := 53) (n := n) (t := 90) (e := 5) rfl (by simp) rfl Tryz.func137 (by decide +kernel) (by kernel_rfl) (by kernel_rfl) (by kernel_rfl) (by kernel_rfl) (by simp) (by omega) ?_
 intro cap hcap hmax
 refine ⟨_, by simp; rfl, ?_⟩
 refine kt9 2 _ _ ?_
 refine yw9 (by simp; rfl) ?_
 refine runG_W rfl ?_
 refine stepW_slice3 (t := 90) (e := 5) (sz := 1) (ag := false) (id := H.length) (off := 0) (len := n) (cap := cap) (k1 := 54) (k2 := 55) (k3 := 56) (n := n) (m := n) rfl (by simp) (by simp) (by simp) (by simp) hcap (Nat.le_refl _) hn0 ?_
 refine ⟨_, by simp; rfl, ?_⟩
 refine kt9 1 _ _ ?_
 refine yw9 (by simp; rfl) ?_
 have hcat : catK 1 ([.v (.int .u8 255)] : List AV) = some [.v (.int .u8 255)] := by rfl
 refine W_rK [7, 8, 9, 10] ?_
 refine yq9 2 (by simp; rfl) rfl ?_
 refine runA_copy (t := 90) (t' := 90) (e := 5) (sz := 1) (id := H.length) (off := 0) (len := n) (cap := n) (ag := false) (oy := .any) (cs := List.replicate cap .any) (ys := [.v (.int .u8 255)]) (yc := [.v (.int .u8 255)]) (by simp) rfl rfl rfl rfl (by simp) (by simp) (by simp) (by omega) (by simp) (by simp; omega) (by rw [List.take_of_length_le (by simp; omega)]; exact hcat) ?_
 refine ⟨_, by simp; rfl, ?_⟩
 have hone : min 1 n = 1 := by omega
 refine yw9 (by simp [hone, goInt]; rfl) ?_
 have hstart : yg9 (List.replicate cap AV.any) 0 (AV.weakL [.v (.int .u8 255)]) = kf9 (List.replicate 1 255) (cap - 1) := by
  obtain ⟨k, rfl⟩ : ∃ k, cap = k + 1 := ⟨cap - 1, by omega⟩
  simp [yg9, kf9, AV.weakL, AV.weak, xq9, List.replicate_succ]
 refine yh9 ?_
 refine yl9 ?_
 refine zg9 (fun k σ => ∃ bp : Nat, k = n - bp ∧ 1 ≤ bp ∧ bp ≤ n ∧ σ = ⟨77, [(7, .v (.int .i64 (n : Nat))), (8, .v (.int .i64 (n : Nat))), (9, .arr H.length 0 n n), (10, .v (.int .i64 (bp : Nat)))], H ++ [.cells 5 (kf9 (List.replicate bp 255) (cap - bp))]⟩) (k := n - 1) ⟨1, rfl, by omega, by omega, ?_⟩ ?_
 ·rw [← hstart]
  simp
 rintro k σ ⟨bp, rfl, hb1, hb2, rfl⟩
 refine yh9 ?_
 by_cases c : bp < n
 ·have ci : (bp : Int) < n := by omega
  have ci2 : ¬ ((n : Int) < bp) := by omega
  have hle2 : (bp : Int) ≤ n := by omega
  have hne : ¬ n = bp := by omega
  obtain ⟨m, hm⟩ : ∃ m, min bp (n - bp) = m := ⟨_, rfl⟩
  have wi := w64 (n := (bp : Int) + m) (by omega) (by omega)
  refine yr9 [7, 8, 9, 10, 63] (by simp [ci]; rfl) ?_
  refine yt9 rfl (fun h => ?_) (fun h => by simp [c] at h)
  refine yj9 ?_
  refine yl9 ?_
  refine yr9 [7, 8, 9, 10, 11] (by simp [ci2]; rfl) ?_
  refine kc9 [7, 8, 9, 10] (W_anyT mx ?_)
  refine yr8 0 rfl (by decide +kernel) (zn8 10 rfl rfl rfl) rfl ?_
  refine yr8 1 rfl (by decide +kernel) (zn8 9 rfl rfl rfl) rfl ?_
  refine yr8 2 rfl (by decide +kernel) (zn8 10 rfl rfl rfl) rfl ?_
  refine yr8 3 rfl (by decide +kernel) (gives_arrLo (e := 5) (sz := 1) (ag := false) (z := .arr H.length bp (n - bp) (n - bp)) 68 69 rfl rfl (by simp) (by simp) rfl rfl (by simp [zs8, bnd, hle2, hne, hb2])) rfl ?_
  refine yr8 4 rfl (by decide +kernel) (zn8 9 rfl rfl rfl) rfl ?_
  refine yr8 5 rfl (by decide +kernel) (zn8 11 rfl rfl rfl) rfl ?_
  refine yr8 6 rfl (by decide +kernel) (gives_arrHi (e := 5) (sz := 1) (ag := false) (z := .arr H.length 0 bp n) 71 72 rfl rfl (by simp) (by simp) rfl rfl (by simp [zs8, bnd, hle2, hb2])) rfl ?_
  refine anyT_allG [7] (by decide +kernel) (by simp) ?_
  intro i hi
  simp only [List.mem_cons, List.not_mem_nil, or_false] at hi
  subst hi
  refine ⟨_, rfl, ?_⟩
  refine .inr ⟨rfl, ?_⟩
  refine stepW_copy (t := 90) (t' := 90) (e := 5) (sz := 1) (id := H.length) (off := bp) (len := n - bp) (cap := n - bp) (m := bp) (ag := false) (cs := kf9 (List.replicate bp 255) (cap - bp)) (yc := byL (List.replicate bp 255)) rfl rfl rfl rfl (by simp) (by simp [srcA, kf9]) (by simp) (by omega) (by simp) (by simp [room_len]; omega) ?_
  refine ⟨_, by simp; rfl, ?_⟩
  refine anyT_all [8] (by decide +kernel) (by simp) ?_
  intro i hi
  simp only [List.mem_cons, List.not_mem_nil, or_false] at hi
  subst hi
  refine ⟨_, rfl, ?_⟩
  refine (show runA Tryz.prog _ [_] _ _ from ?_)
  rw [hm]
  refine yw9 (by simp [goInt, wi]; rfl) ?_
  refine anyT_all [9] (by decide +kernel) (by simp) ?_
  intro i hi
  simp only [List.mem_cons, List.not_mem_nil, or_false] at hi
  subst hi
  refine ⟨_, rfl, ?_⟩
  refine (show runA Tryz.prog _ [_] _ _ from ?_)
  refine yw9 (by simp; rfl) ?_
  refine anyT_done (by decide +kernel) ?_
  refine ⟨n - (bp + m), by omega, bp + m, rfl, by omega, by omega, ?_⟩
  have hseg : yg9 (kf9 (List.replicate bp 255) (cap - bp)) bp ((byL (List.replicate bp 255)).take (m * 1)) = kf9 (List.replicate (bp + m) 255) (cap - (bp + m)) := by
   have h1 := room_app (List.replicate bp 255) (List.replicate m 255) (cap - bp) (by simp; omega)
   rw [List.length_replicate, List.length_replicate] at h1
   rw [← vw9, List.take_replicate, show min (m * 1) bp = m by omega, h1, List.replicate_append_replicate, Nat.sub_sub]
  rw [← hseg]
  simp [uw9]
 ·have ci : ¬ ((bp : Int) < n) := by omega
  obtain rfl : bp = n := by omega
  refine W_cF [7, 8, 9, 10, 63] (by simp; rfl) rfl ?_
  refine zd9 ?_
  refine yr9 [4] (by simp; rfl) ?_
  refine yk9 ?_
  repeat (first | refine ys9 ?_ | refine yd9 ?_)
  refine ⟨.inr rfl, .arr H.length 0 bp bp, .arr H.length 0 bp bp, H ++ [.cells 5 (kf9 (List.replicate bp 255) (cap - bp))], H.length + 1, by simp, .inl ⟨rfl, by simp⟩, by omega, by simp, by simp [AV.under], ?_, ⟨cap - bp, rfl, ?_⟩⟩
  ·rw [List.take_of_length_le (by simp), zn9, hh]
   simp [yb9, AObj.under, kf9]
  ·rw [List.take_of_length_le (by simp)]
theorem xm9.dpArgs {P : Program} {f : FuncId} {args : List AV} {h : List AObj} {Q : AV → List AObj → Prop} (hc : xm9 P f (AV.dpL args) h Q) : xm9 P f args h Q :=
 ⟨hc.1, fun F n c w vals h1 h2 h3 h4 h5 h6 => hc.2 F n c w vals h1 h2 h3 h4 h5 h6.dpL⟩
theorem xm9.ofDp {P : Program} {f : FuncId} {args args' : List AV} {h : List AObj} {Q : AV → List AObj → Prop} (hd : AV.dpL args = args') (hc : xm9 P f args' h Q) : xm9 P f args h Q := xm9.dpArgs (hd ▸ hc)
theorem repeat8_callX (T : Nat) (H : List AObj) (hh : yb9 (H.length + 1) H = true) :
  xm9 Tryz.prog 117 [.lst (.tip 5 T) 1 [.v (.int .u8 255)], .v (.int .i64 8)] H fun r h' => ∃ k, r = .arr H.length 0 8 8 ∧ h' = H ++ [.cells 5 (kf9 (List.replicate 8 255) k)] := by
 refine xm9.dpArgs ?_
 rw [show AV.dpL [.lst (.tip 5 T) 1 [.v (.int .u8 255)], .v (.int .i64 8)] = [.lst .any 1 [.v (.int .u8 255)], .v (.int .i64 8)] by simp [AV.dpL, AV.dp]]
 exact repeat_callW 8 rfl H hh
end Go.AM
namespace Go.AM
open Go.RowKit Go.Proofs
set_option linter.unusedSimpArgs false
set_option linter.unusedVariables false
set_option maxHeartbeats 4000000
set_option maxRecDepth 20000
theorem wfits_sound (b : List UInt8) (n : Nat) (hb : b.length ≤ 1000000000) (hn : n ≤ 1000) : Sound Tryz.prog 99 [.lst .any 1 (byL b), .v (.int .i64 0), .v (.int .i64 (n : Nat))] (.v (.bool (decide (n ≤ b.length)))) := by
 refine yc9 Tryz.func99 rfl (by decide +kernel) (by simp [Tryz.f99]) rfl rfl (rs := [.tmp 6]) rfl ?_
 rw [show Tryz.f99.ntmps = 17 from rfl]
 have w := w64 (n := (b.length : Int) - n) (by omega) (by omega)
 refine yr9 [0, 1, 2] (by simp; rfl) ?_
 refine yr9 [6] (by simp [w]; rfl) ?_
 refine yk9 ?_
 repeat (first | refine ys9 ?_ | refine yd9 ?_)
 simp [retQ]
def halfX (a b : Int) : Int := IntKind.u32.wrap (IntKind.i32.wrap (IntKind.i16.wrap ((BitVec.ofInt IntKind.i16.bits (IntKind.i16.wrap (IntKind.i16.wrap a * 2 ^ min 8 IntKind.i16.bits)) ||| BitVec.ofInt IntKind.i16.bits (IntKind.i16.wrap b)).toNat : Nat)))
theorem wrap_i16x (n : Int) : IntKind.i16.wrap n = (n + 32768) % 65536 - 32768 := by
 have e : ∀ m : Int, (if (2 : Int) ^ 15 ≤ m % 65536 then m % 65536 - 65536 else m % 65536) = (m + 32768) % 65536 - 32768 := by
  intro m
  rw [show (2 : Int) ^ 15 = 32768 by decide]
  split <;> omega
 have := e n
 simp [IntKind.wrap, IntKind.bits, IntKind.signed] at this ⊢
 omega
theorem halfX_eq (a b : Nat) (ha : a < 256) (hb : b < 256) : halfX (a : Int) (b : Int) = if a < 128 then ((256 * a + b : Nat) : Int) else ((256 * a + b : Nat) : Int) + 4294901760 := by
 have hor : (BitVec.ofInt IntKind.i16.bits (IntKind.i16.wrap (IntKind.i16.wrap (a : Int) * 2 ^ min 8 IntKind.i16.bits)) ||| BitVec.ofInt IntKind.i16.bits (IntKind.i16.wrap (b : Int))).toNat = 256 * a + b := by
  have h1 : (BitVec.ofInt IntKind.i16.bits (IntKind.i16.wrap (IntKind.i16.wrap (a : Int) * 2 ^ min 8 IntKind.i16.bits))).toNat = 256 * a := by
   rw [BitVec.toNat_ofInt, show (2 : Int) ^ min 8 IntKind.i16.bits = 256 from rfl, wrap_i16x, wrap_i16x]
   show ((_ : Int) % ((2 ^ 16 : Nat) : Int)).toNat = _
   rw [show ((2 ^ 16 : Nat) : Int) = 65536 from rfl]
   omega
  have h2 : (BitVec.ofInt IntKind.i16.bits (IntKind.i16.wrap (b : Int))).toNat = b := by
   rw [BitVec.toNat_ofInt, wrap_i16x]
   show ((_ : Int) % ((2 ^ 16 : Nat) : Int)).toNat = _
   rw [show ((2 ^ 16 : Nat) : Int) = 65536 from rfl]
   omega
  rw [BitVec.toNat_or, h1, h2]
  have := Nat.shiftLeft_add_eq_or_of_lt (i := 8) hb a
  rw [Nat.shiftLeft_eq] at this
  rw [show 256 * a = a * 2 ^ 8 by omega]
  exact this.symm
 rw [halfX, hor, wrap_i16x, IntKind.wrap_i32, IntKind.wrap_u32]
 split <;> omega
theorem halfX_min (a b : UInt8) : min (halfX a.toNat b.toNat) 256 = ((min (256 * a.toNat + b.toNat) 256 : Nat) : Int) ∧ 0 ≤ halfX a.toNat b.toNat ∧ halfX a.toNat b.toNat ≤ 4294967295 := by
 have ha := a.toNat_lt
 have hb := b.toNat_lt
 rw [halfX_eq _ _ (by omega) (by omega)]
 split <;> omega
theorem half_sound (b : List UInt8) (hb : b.length ≤ 1000000000) (h2 : 2 ≤ b.length) : Sound Tryz.prog 62 [.lst .any 1 (byL b), .v (.int .i64 0)] (.tup [.v (.int .u32 (halfX (b.getD 0 0).toNat (b.getD 1 0).toNat)), .v (.bool true)]) := by
 refine yc9 Tryz.func62 rfl (by decide +kernel) (by simp [Tryz.f62]) rfl rfl (rs := [.tmp 4, .tmp 5]) rfl ?_
 rw [show Tryz.f62.ntmps = 25 from rfl]
 have hf := wfits_sound b 2 hb (by omega)
 rw [decide_eq_true h2] at hf
 obtain ⟨x, hx⟩ : ∃ x, b[0]? = some x := ⟨_, List.getElem?_eq_getElem (by omega)⟩
 obtain ⟨y, hy⟩ : ∃ y, b[1]? = some y := ⟨_, List.getElem?_eq_getElem (by omega)⟩
 have hx1 : b[0]'(by omega) = x := by rw [List.getElem?_eq_getElem (by omega)] at hx; exact Option.some.inj hx
 have hy1 : b[1]'(by omega) = y := by rw [List.getElem?_eq_getElem (by omega)] at hy; exact Option.some.inj hy
 have hx2 : b.getD 0 0 = x := by rw [List.getD_eq_getElem?_getD, hx]; rfl
 have hy2 : b.getD 1 0 = y := by rw [List.getD_eq_getElem?_getD, hy]; rfl
 have h0l : 0 < b.length := by omega
 have h1l : 1 < b.length := by omega
 have w1 : IntKind.i64.wrap 1 = 1 := by decide +kernel
 have w2 : IntKind.i64.wrap (0 + 1) = 1 := by decide +kernel
 rw [hx2, hy2]
 refine yr9 [0, 1] (by simp; rfl) ?_
 refine yh9 ?_
 refine W_rK [0, 1, 9] ?_
 refine yq9 2 (by simp; rfl) rfl ?_
 refine yf9 (by simp) (by first | (simp; done) | (simp; rfl)) hf (by simp; rfl) ?_
 refine yw9 (by simp; rfl) ?_
 refine yt9 rfl (fun h => by simp at h) (fun h => ?_)
 refine yj9 ?_
 refine wc9 [4, 5] mx (by decide +kernel) ?_
 refine yp9 6 (by simp [h0l, hx, hx1]; rfl) rfl ?_
 refine yp9 5 (by simp [h1l, hy, hy1, w1, w2]; rfl) rfl ?_
 refine yp9 2 (by simp; rfl) rfl ?_
 refine yn9 (by simp; rfl) ?_
 refine yk9 ?_
 repeat (first | refine ys9 ?_ | refine yd9 ?_)
 simp [retQ, halfX]
theorem put_callW (b f : List UInt8) (hb : b.length = 256) (hf : f.length = 2) (H : List AObj) (hh : yb9 H.length H = true) :
  xm9 Tryz.prog 135 [.lst .any 1 (byL b), .v (.int .i64 0), .lst .any 1 (byL f)] H fun r h' => ∃ k, 256 + k ≤ maxLen ∧ r = .tup [.arr H.length 0 256 (256 + k), .v (.bool true)] ∧ h' = H ++ [.cells 5 (byL (f ++ b.drop 2 ++ List.replicate k 0))] := by
 refine zf9 Tryz.func135 rfl (by decide +kernel) (by simp [Tryz.f135]) (rs := [.tmp 6, .tmp 7]) rfl ?_
 rw [show Tryz.f135.ntmps = 23 from rfl]
 have hfit := wfits_sound b 2 (by omega) (by omega)
 rw [decide_eq_true (by omega)] at hfit
 refine yr9 [0, 1, 2] (by simp; rfl) ?_
 refine yh9 ?_
 refine W_rK [0, 1, 2, 14] ?_
 refine yq9 4 (by simp [hf]; rfl) rfl ?_
 refine yf9 (by simp) (by first | (simp; done) | (simp; rfl)) hfit (by simp; rfl) ?_
 refine yw9 (by simp; rfl) ?_
 refine yt9 rfl (fun h => by simp at h) (fun h => ?_)
 refine yj9 ?_
 refine W_rK [1, 2, 8] ?_
 refine yq9 1 (by simp; rfl) rfl ?_
 refine runA_nil (t := 90) (e := 5) (sz := 1) (by_ := 1) (s0 := 1) (x0 := []) (oy := .any) (ys := byL b) (by simp) rfl rfl rfl rfl (by simp) (by simp) s90 a5 z5 (by simp) (uv9 _) (by intro e; rw [show b = [] by cases b with | nil => rfl | cons x l => simp [byL] at e] at hb; simp at hb) (by simp [hb]) ?_
 intro cap h1 h2
 rw [xl9, hb] at h1
 obtain ⟨k, rfl⟩ : ∃ k, cap = 256 + k := ⟨cap - 256, by omega⟩
 refine ⟨_, by simp; rfl, ?_⟩
 refine yw9 (by simp; rfl) ?_
 have hz : byL b ++ repC k [AV.v (.int .u8 0)] = byL (b ++ List.replicate k 0) := by rw [kn9, xc9]
 simp only [hb, Nat.add_sub_cancel_left, AV.cells, xl9, hz]
 refine W_rK [8] ?_
 refine yq9 4 (by simp [show ¬ 256 + k = 0 by omega]; rfl) rfl ?_
 refine runA_copy (t := 90) (t' := 90) (e := 5) (sz := 1) (id := H.length) (off := 0) (len := 256) (cap := 256 + k) (ag := false) (oy := .any) (cs := byL (b ++ List.replicate k 0)) (ys := byL f) (yc := byL f) (by simp) rfl rfl rfl rfl (by simp) (by simp) s90 (by omega) (by simp) (by simp [hb]) (by rw [List.take_of_length_le (by simp [hf])]; exact uv9 _) ?_
 have hseg : yg9 (byL (b ++ List.replicate k 0)) 0 (AV.weakL (byL f)) = byL (f ++ b.drop 2 ++ List.replicate k 0) := by
  rw [jw9]
  unfold yg9
  rw [List.take_zero, List.nil_append, Nat.zero_add, xl9, hf, ← kl9, List.drop_append_of_le_length (by omega), ← xc9, List.append_assoc]
 rw [hseg]
 refine ⟨_, by simp; rfl, ?_⟩
 refine yw9 (by simp; rfl) ?_
 refine yr9 [6, 7] (by simp; rfl) ?_
 refine yk9 ?_
 repeat (first | refine ys9 ?_ | refine yd9 ?_)
 refine ⟨.inr rfl, .tup [.arr H.length 0 256 (256 + k), .v (.bool true)], .tup [.arr H.length 0 256 (256 + k), .v (.bool true)], H ++ [.cells 5 (byL (f ++ b.drop 2 ++ List.replicate k 0))], H.length + 1, by simp, .inl ⟨rfl, by simp⟩, by omega, by simp, by simp [AV.under, AV.underL], ?_, ⟨k, h2, rfl, ?_⟩⟩
 ·rw [List.take_of_length_le (by simp), zn9, wp9 (by omega) _ hh]
  simp [yb9, AObj.under]
 ·rw [List.take_of_length_le (by simp)]
theorem putHalf_callW (b : List UInt8) (v : Nat) (hb : b.length = 256) (hv : v < 256) (H : List AObj) (hh : yb9 H.length H = true) (fl : Fl) :
  xm9 Tryz.prog 116 [.lst fl 1 (byL b), .v (.int .i64 0), .v (.int .u32 (v : Nat))] H fun r h' => ∃ k, 256 + k ≤ maxLen ∧ r = .tup [.arr H.length 0 256 (256 + k), .v (.bool true)] ∧ h' = H ++ [.cells 5 (byL ([0, UInt8.ofNat v] ++ b.drop 2 ++ List.replicate k 0))] := by
 refine xm9.dpArgs ?_
 rw [show AV.dpL [.lst fl 1 (byL b), .v (.int .i64 0), .v (.int .u32 (v : Nat))] = [.lst .any 1 (byL b), .v (.int .i64 0), .v (.int .u32 (v : Nat))] by simp [AV.dpL, AV.dp]]
 refine zf9 Tryz.func116 rfl (by decide +kernel) (by simp [Tryz.f116]) (rs := [.tmp 6, .tmp 7]) rfl ?_
 rw [show Tryz.f116.ntmps = 19 from rfl]
 have w1 : IntKind.u8.wrap (Int.fdiv (v : Int) (2 ^ min 8 IntKind.u32.bits)) = 0 := by
  rw [show (2 : Int) ^ min 8 IntKind.u32.bits = 256 from rfl, Int.fdiv_eq_ediv_of_nonneg _ (by omega), IntKind.wrap_u8]
  omega
 have w2 : IntKind.u8.wrap (v : Int) = ((UInt8.ofNat v).toNat : Nat) := by
  rw [IntKind.wrap_u8, UInt8.toNat_ofNat']
  omega
 have hp := put_callW b [0, UInt8.ofNat v] hb rfl H hh
 refine yr9 [0, 1, 2] (by simp; rfl) ?_
 refine W_rK [6, 7] ?_
 refine yq9 8 (by simp [w1, w2]; rfl) rfl ?_
 refine zm9 (f := 135) (args := [.lst .any 1 (byL b), .v (.int .i64 0), .lst (.tip 5 62) 1 [.v (.int .u8 0), .v (.int .u8 ((UInt8.ofNat v).toNat : Nat))]]) (by simp) (by simp [xn9, zc9]) ((xm9.ofDp (by simp only [AV.dpL, AV.dp, dpL_byL]; rfl) hp).mono ?_)
 rintro r h' ⟨k, hk, rfl, rfl⟩
 refine ⟨_, by simp; rfl, ?_⟩
 refine yw9 (by simp; rfl) ?_
 refine yk9 ?_
 repeat (first | refine ys9 ?_ | refine yd9 ?_)
 refine ⟨.inr rfl, .tup [.arr H.length 0 256 (256 + k), .v (.bool true)], .tup [.arr H.length 0 256 (256 + k), .v (.bool true)], H ++ [.cells 5 (byL ([0, UInt8.ofNat v] ++ b.drop 2 ++ List.replicate k 0))], H.length + 1, by simp, .inl ⟨rfl, by simp⟩, by omega, by simp, by simp [AV.under, AV.underL], ?_, ⟨k, hk, rfl, ?_⟩⟩
 ·rw [List.take_of_length_le (by simp), zn9, wp9 (by omega) _ hh]
  simp [yb9, AObj.under]
 ·rw [List.take_of_length_le (by simp)]
end Go.AM
namespace Go.AM
open Go.RowKit Go.Proofs
set_option linter.unusedSimpArgs false
set_option linter.unusedVariables false
set_option maxHeartbeats 4000000
set_option maxRecDepth 20000
def vk9 (n : Nat) : List UInt8 := List.replicate n 0
@[simp] theorem zerosL_len (n : Nat) : (vk9 n).length = n := by simp [vk9]
theorem frz256 {h : List AObj} {id : Nat} (hid : h[id]? = some (.cells 5 (repC 256 [.v (.int .u8 0)]))) : xj9 Tryz.prog h 1 id 0 256 256 = some (.lst (.tip 5 1) 1 (byL (vk9 256)), h.set id (.froz 5 (byL (vk9 256)))) := by
 rw [kn9] at hid
 have hz : List.replicate 256 (0 : UInt8) = vk9 256 := rfl
 rw [hz] at hid
 obtain ⟨Z, hZ⟩ : ∃ Z, vk9 256 = Z := ⟨_, rfl⟩
 have hl : Z.length = 256 := by rw [← hZ, zerosL_len]
 rw [hZ] at hid ⊢
 unfold xj9
 rw [hid]
 simp [hl, List.take_of_length_le]
theorem setBL (X A B Z : List UInt8) (h : B.length = A.length) : yg9 (byL (X ++ (A ++ Z))) X.length (byL B) = byL (X ++ (B ++ Z)) := by
 unfold yg9
 rw [← vw9, ← kl9, xl9, h, List.take_left, ← List.append_assoc X A Z, List.drop_left' (by simp), ← xc9, ← xc9, List.append_assoc]
theorem ent_put (X Z : List UInt8) (e : RE) (he : e.key.length = 8) (a : Nat) (ha : X.length = a) :
  yg9 (yg9 (yg9 (yg9 (byL (X ++ (vk9 12 ++ Z))) a (byL e.key)) (a + 8) [.v (.int .u8 ((UInt8.ofNat (e.trk / 256)).toNat : Nat))]) (a + 9) [.v (.int .u8 ((UInt8.ofNat e.trk).toNat : Nat))]) (a + 10) [.v (.int .u8 ((UInt8.ofNat e.rn).toNat : Nat))] = byL (X ++ (entB e ++ Z)) := by
 subst ha
 have hz : vk9 12 = vk9 8 ++ ([0] ++ ([0] ++ ([0] ++ [0]))) := rfl
 rw [hz, List.append_assoc, setBL X (vk9 8) e.key _ (by rw [he, zerosL_len])]
 have h1 := setBL (X ++ e.key) [0] [UInt8.ofNat (e.trk / 256)] (([0] ++ ([0] ++ [0])) ++ Z) rfl
 have h2 := setBL (X ++ e.key ++ [UInt8.ofNat (e.trk / 256)]) [0] [UInt8.ofNat e.trk] (([0] ++ [0]) ++ Z) rfl
 have h3 := setBL (X ++ e.key ++ [UInt8.ofNat (e.trk / 256)] ++ [UInt8.ofNat e.trk]) [0] [UInt8.ofNat e.rn] ([0] ++ Z) rfl
 simp only [List.append_assoc, List.length_append, he, List.length_singleton] at h1 h2 h3 ⊢
 simp only [xq9, byL_nil] at h1 h2 h3
 rw [h1, show X.length + 9 = X.length + (8 + 1) by omega, h2, show X.length + 10 = X.length + (8 + (1 + 1)) by omega, h3, entB]
 simp only [List.append_assoc, List.cons_append, List.nil_append]
theorem part_cut (l : List RE) (i F E : Nat) (hF : min (21 * i) l.length = F) (hE : min (F + 21) l.length = E) : (l.take E).drop F = partE l i := by
 unfold partE
 rcases Nat.le_total (21 * i) l.length with h | h
 ·have : F = 21 * i := by omega
  subst this
  rw [List.drop_take, show E - 21 * i = min 21 (l.length - 21 * i) by omega]
  rcases Nat.le_total 21 (l.length - 21 * i) with h2 | h2
  ·rw [Nat.min_eq_left h2]
  ·rw [Nat.min_eq_right h2, List.take_of_length_le (by rw [List.length_drop]; omega), List.take_of_length_le (by rw [List.length_drop]; omega)]
 ·rw [List.drop_eq_nil_of_le (by rw [List.length_take]; omega), List.drop_eq_nil_of_le h]
  rfl
def datP (P : List RE) (j k : Nat) : List UInt8 := [0, UInt8.ofNat (2 + 12 * P.length)] ++ kr9 (P.take j) ++ vk9 (254 - 12 * j + k)
theorem datP_len {P : List RE} (h8 : ∀ e ∈ P, e.key.length = 8) (hP : P.length ≤ 21) {j k : Nat} (hj : j ≤ P.length) : (datP P j k).length = 256 + k := by
 unfold datP
 rw [List.length_append, List.length_append, xr8 (fun e he => h8 e (List.mem_of_mem_take he)), List.length_take, zerosL_len]
 simp
 omega
theorem datP_next {P : List RE} (h8 : ∀ e ∈ P, e.key.length = 8) (hP : P.length ≤ 21) {j k : Nat} {e : RE} (he : P[j]? = some e) :
  yg9 (yg9 (yg9 (yg9 (byL (datP P j k)) (2 + 12 * j) (byL e.key)) (2 + 12 * j + 8) [.v (.int .u8 ((UInt8.ofNat (e.trk / 256)).toNat : Nat))]) (2 + 12 * j + 9) [.v (.int .u8 ((UInt8.ofNat e.trk).toNat : Nat))]) (2 + 12 * j + 10) [.v (.int .u8 ((UInt8.ofNat e.rn).toNat : Nat))] = byL (datP P (j + 1) k) := by
 have hj := (List.getElem?_eq_some_iff.1 he).1
 have hlen : ([0, UInt8.ofNat (2 + 12 * P.length)] ++ kr9 (P.take j)).length = 2 + 12 * j := by
  rw [List.length_append, xr8 (fun x hx => h8 x (List.mem_of_mem_take hx)), List.length_take]
  simp
  omega
 have hz : vk9 (254 - 12 * j + k) = vk9 12 ++ vk9 (254 - 12 * (j + 1) + k) := by
  unfold vk9
  rw [List.replicate_append_replicate]
  congr 1
  omega
 have hb : kr9 (P.take (j + 1)) = kr9 (P.take j) ++ entB e := by
  rw [List.take_add_one, he]
  simp [kr9]
 have := ent_put ([0, UInt8.ofNat (2 + 12 * P.length)] ++ kr9 (P.take j)) (vk9 (254 - 12 * (j + 1) + k)) e (h8 e (List.mem_of_getElem? he)) (2 + 12 * j) hlen
 rw [datP, hz, this, datP, hb]
 simp only [List.append_assoc]
theorem frz_by2 {H : List AObj} {q n cq : Nat} {B : List UInt8} (hq : H[q]? = some (.cells 5 (byL B))) (hn : n ≤ B.length) : ∃ o, (o = .any ∨ o = .tip 5 1) ∧ xj9 Tryz.prog H 1 q 0 n cq = some (.lst o 1 (byL (B.take n)), H.set q (.froz 5 (byL B))) := by
 unfold xj9
 rw [hq]
 simp only [t5]
 rw [if_pos ⟨by omega, .inr trivial, by simpa using hn, by simp, by simp⟩, jw9, List.drop_zero, chunk_byL _ _ hn]
 refine ⟨_, ?_, rfl⟩
 split
 ·exact .inr rfl
 ·exact .inl rfl
theorem frz_room3 {h : List AObj} (id n cap : Nat) (c : List UInt8) (k : Nat) (hid : h[id]? = some (.cells 5 (kf9 c k))) (hc : c.length = n) : ∃ (o : Fl), (o = .any ∨ o = .tip 5 1) ∧ xj9 Tryz.prog h 1 id 0 n cap = some (.lst o 1 (byL c), h.set id (.froz 5 (byL c))) := by
 have e2 : tyI Tryz.prog 5 = some (false, 1) := by simp
 subst hc
 cases k with
 | zero =>
  have e0 : kf9 c 0 = byL c := by simp [kf9]
  rw [e0] at hid
  refine ⟨if 0 = 0 ∧ c.length = cap ∧ cap * 1 = (byL c).length then .tip 5 1 else .any, by split <;> simp, ?_⟩
  simp only [xj9, hid, e2]
  rw [if_pos ⟨by omega, .inr trivial, by simp, koneL_byL _, rfL_byL _⟩, jw9, List.drop_zero, chunk_byL _ _ (by omega), List.take_of_length_le (by omega)]
 | succ k =>
  have e1 : (kf9 c (k + 1)).take (0 + c.length * 1) = byL c := by
   rw [kf9, Nat.zero_add, Nat.mul_one, List.take_append_of_le_length (by simp), List.take_of_length_le (by simp)]
  have e3 : AV.koneL (kf9 c (k + 1)) = false := by
   rw [kf9, koneL_app, List.replicate_succ]
   simp [AV.koneL, AV.kone]
  refine ⟨.any, .inl rfl, ?_⟩
  simp only [xj9, hid, e2, e1]
  rw [if_neg (by rw [e3]; simp), if_pos ⟨by omega, .inr trivial, by simp [room_len], koneL_byL _, rfL_byL _⟩, jw9, List.drop_zero, chunk_byL _ _ (by omega), List.take_of_length_le (by omega)]
end Go.AM
namespace Go.AM
open Go.RowKit Go.Proofs
set_option linter.unusedSimpArgs false
set_option linter.unusedVariables false
set_option maxHeartbeats 8000000
set_option maxRecDepth 20000
theorem block24_sound (l : List RE) (n0 i : Nat) (h8 : ∀ e ∈ l, e.key.length = 8) (hs : ∀ e ∈ l, e.trk < 1000000000 ∧ e.rn < 1000000000) (hl : l.length ≤ 1000000000) (hi : i ≤ 1000000) : Sound Tryz.prog 83 [.agg [.lst .any 10 (reL l), .v (.int .i64 (n0 : Nat))], .v (.int .i64 (i : Nat))] (recA (blkE l i)) := by
 refine vf9 Tryz.func83 rfl (by decide +kernel) (by simp [Tryz.f83]) (by simp [AV.rfL, AV.rf]) (by simp [AV.tlL, AV.tl]) (rs := [.cell 4 100]) rfl ?_
 rw [show Tryz.f83.ntmps = 97 from rfl]
 obtain ⟨m, hm⟩ : ∃ m, 21 * i = m := ⟨_, rfl⟩
 obtain ⟨F, hF⟩ : ∃ F, min m l.length = F := ⟨_, rfl⟩
 obtain ⟨E, hE⟩ : ∃ E, min (F + 21) l.length = E := ⟨_, rfl⟩
 obtain ⟨P, hP⟩ : ∃ P, partE l i = P := ⟨_, rfl⟩
 have hcut := part_cut l i F E (by rw [hm]; exact hF) hE
 rw [hP] at hcut
 have hcut2 : List.drop F (List.take E (reL l)) = reL P := by rw [← reL_take, ← reL_drop, hcut]
 have hP21 : P.length ≤ 21 := by rw [← hP]; exact partE_len l i
 have hP8 : ∀ e ∈ P, e.key.length = 8 := fun e he => h8 e (partE_mem (n := i) (by rw [hP]; exact he))
 have hPs : ∀ e ∈ P, e.trk < 1000000000 ∧ e.rn < 1000000000 := fun e he => hs e (partE_mem (n := i) (by rw [hP]; exact he))
 have hm1 : m ≤ 21000000 := by omega
 have w1 : IntKind.i64.wrap ((i : Int) * 21) = (m : Nat) := by rw [w64 (by omega) (by omega)]; omega
 have hmin1 : (if (l.length : Int) < (m : Nat) then (l.length : Int) else (m : Nat)) = (F : Nat) := by split <;> omega
 have hmin1b : (if l.length < m then (l.length : Int) else (m : Nat)) = (F : Nat) := by split <;> omega
 have w2 : IntKind.i64.wrap ((F : Int) + 21) = ((F + 21 : Nat) : Int) := by rw [w64 (by omega) (by omega)]; omega
 have hmin2 : (if (l.length : Int) < ((F + 21 : Nat) : Int) then (l.length : Int) else ((F + 21 : Nat) : Int)) = (E : Nat) := by split <;> omega
 obtain ⟨F21, hF21⟩ : ∃ F21, F + 21 = F21 := ⟨_, rfl⟩
 rw [hF21] at w2 hmin2 hE
 have hmin2b : (if l.length < F21 then (l.length : Int) else (F21 : Nat)) = (E : Nat) := by split <;> omega
 have hFE : F ≤ E := by omega
 have hFEi : (F : Int) ≤ E := by omega
 have hEl : E ≤ l.length := by omega
 have hEli : (E : Int) ≤ l.length := by omega
 refine yr9 [1, 2, 4] (by simp; rfl) ?_
 refine yr9 [1, 2, 4, 5] (by simp [w1, hmin1, hmin1b]; rfl) ?_
 refine W_rK [1, 2, 4, 5, 6] ?_
 refine yq9 5 (by simp [w2]; rfl) rfl ?_
 refine yw9 (by simp [w2, hmin2, hmin2b, hFE, hFEi, hEl, hEli, hcut2]; rfl) ?_
 refine yr9 [1, 2, 4, 5, 6, 7] (by simp; rfl) ?_
 refine W_frz 7 (tk := 1) rfl (by decide) (frz256 (by simp)) ?_
 obtain ⟨Z, hZ⟩ : ∃ Z, vk9 256 = Z := ⟨_, rfl⟩
 have hZl : Z.length = 256 := by rw [← hZ, zerosL_len]
 rw [hZ]
 obtain ⟨v, hv⟩ : ∃ v, 2 + 12 * P.length = v := ⟨_, rfl⟩
 have hv2 : v < 256 := by omega
 have w3 : IntKind.i64.wrap (12 * (P.length : Int)) = 12 * (P.length : Int) := w64 (by omega) (by omega)
 have w4 : IntKind.i64.wrap (2 + 12 * (P.length : Int)) = (v : Nat) := by rw [w64 (by omega) (by omega)]; omega
 have w5 : IntKind.u32.wrap (v : Nat) = (v : Nat) := by rw [IntKind.wrap_u32]; omega
 obtain ⟨O0, hO0⟩ : ∃ O0 : AObj, AObj.cells 70 [.lst .any 10 (reL l), .v (.int .i64 (n0 : Nat))] = O0 := ⟨_, rfl⟩
 refine W_rK [1, 2, 4, 5, 6, 7] ?_
 refine yq9 6 (by simp [w3, w4, w5]; rfl) rfl ?_
 refine zm9 (f := 116) (args := [.lst (.tip 5 1) 1 (byL Z), .v (.int .i64 0), .v (.int .u32 (v : Nat))]) (by simp) (by simp [xn9, zc9]) ((putHalf_callW Z v hZl hv2 _ (by simp [yb9, AObj.under, AV.under, AV.underL]) (.tip 5 1)).mono ?_)
 rintro r h' ⟨k, hk, rfl, rfl⟩
 have hD0 : [0, UInt8.ofNat v] ++ Z.drop 2 ++ List.replicate k 0 = datP P 0 k := by
  rw [← hZ, ← hv, datP, List.take_zero]
  have : (vk9 256).drop 2 ++ List.replicate k 0 = vk9 (254 - 12 * 0 + k) := by
   unfold vk9
   rw [List.drop_replicate, List.replicate_append_replicate]
  rw [List.append_assoc, this]
  simp [kr9]
 rw [hD0]
 refine ⟨_, by simp; rfl, ?_⟩
 refine yw9 (by simp; rfl) ?_
 refine yh9 ?_
 refine yr9 [1, 2, 4, 5, 6, 7, 39, 40, 41] (by simp; rfl) ?_
 refine yl9 ?_
 obtain ⟨O1, hO1⟩ : ∃ O1 : AObj, AObj.cells 100 [.v (.int .i64 0), .lst .nil 1 [], .lst .nil 1 [], .v (.bool false)] = O1 := ⟨_, rfl⟩
 obtain ⟨O2, hO2⟩ : ∃ O2 : AObj, AObj.froz 5 (byL Z) = O2 := ⟨_, rfl⟩
 have hu0 : ∀ n, O0.under n = true := by intro n; rw [← hO0]; simp [AObj.under, AV.under, AV.underL]
 have hu1 : ∀ n, O1.under n = true := by intro n; rw [← hO1]; simp [AObj.under, AV.under, AV.underL]
 have hu2 : ∀ n, O2.under n = true := by intro n; rw [← hO2]; simp [AObj.under]
 have hu3 : ∀ n D, (AObj.cells 5 (byL D)).under n = true := by intro n D; simp [AObj.under]
 refine zg9 (fun q s => ∃ j : Nat, q = P.length - j ∧ j ≤ P.length ∧ s = ⟨97, [(1, .v (.int .i64 (i : Nat))), (2, .loc 0 0), (4, .loc 1 0), (5, .v (.int .i64 (F : Nat))), (6, .lst .any 10 (reL P)), (7, .arr 3 0 256 (256 + k)), (39, .lst .any 10 (reL P)), (40, .v (.int .i64 (P.length : Nat))), (41, .v (.int .i64 (j : Nat)))], [O0, O1, O2, .cells 5 (byL (datP P j k))]⟩) (k := P.length) ⟨0, rfl, by omega, by simp [hO0, hO1, hO2]⟩ ?_
 rintro q s ⟨j, rfl, hj, rfl⟩
 have hDl := datP_len hP8 hP21 (k := k) hj
 by_cases c : j < P.length
 ·have cj : (j : Int) < P.length := by omega
  obtain ⟨e, he⟩ : ∃ e, P[j]? = some e := ⟨_, List.getElem?_eq_getElem c⟩
  have hge : P[j]'c = e := by rw [List.getElem?_eq_getElem c] at he; exact Option.some.inj he
  have he8 := hP8 e (List.mem_of_getElem? he)
  have hes := hPs e (List.mem_of_getElem? he)
  have hnext := datP_next hP8 hP21 (k := k) he
  have hnl := datP_len hP8 hP21 (j := j + 1) (k := k) (by omega)
  have wj := w64 (n := (j : Int) + 1) (by omega) (by omega)
  obtain ⟨a, ha⟩ : ∃ a, 2 + 12 * j = a := ⟨_, rfl⟩
  have wa1 : IntKind.i64.wrap (12 * (j : Int)) = 12 * (j : Int) := w64 (by omega) (by omega)
  have wa2 : IntKind.i64.wrap (2 + 12 * (j : Int)) = (a : Nat) := by rw [w64 (by omega) (by omega)]; omega
  have ha1 : a + 12 ≤ 256 := by omega
  have ha2 : (a : Int) ≤ 256 := by omega
  have ha3 : a ≤ 256 := by omega
  have ha4 : ¬ 256 + k = a := by omega
  rw [ha] at hnext
  obtain ⟨D, hD⟩ : ∃ D, datP P j k = D := ⟨_, rfl⟩
  rw [hD] at hDl hnext ⊢
  have htk := take_key he8
  have hd8 : List.drop 8 (reC e) = [.v (.int .i64 (e.trk : Nat)), .v (.int .i64 (e.rn : Nat))] := by
   rw [reC, List.drop_append_of_le_length (by simp [he8]), List.drop_eq_nil_of_le (by simp [he8])]
   rfl
  have b1 : IntKind.u8.wrap (Int.fdiv (e.trk : Int) (2 ^ min 8 IntKind.i64.bits)) = ((UInt8.ofNat (e.trk / 256)).toNat : Nat) := by
   rw [show (2 : Int) ^ min 8 IntKind.i64.bits = 256 from rfl, Int.fdiv_eq_ediv_of_nonneg _ (by omega), IntKind.wrap_u8, UInt8.toNat_ofNat']
   omega
  have b2 : IntKind.u8.wrap (e.trk : Int) = ((UInt8.ofNat e.trk).toNat : Nat) := by
   rw [IntKind.wrap_u8, UInt8.toNat_ofNat']
   omega
  have b3 : IntKind.u8.wrap (e.rn : Int) = ((UInt8.ofNat e.rn).toNat : Nat) := by
   rw [IntKind.wrap_u8, UInt8.toNat_ofNat']
   omega
  obtain ⟨B1, hB1⟩ : ∃ B1 : Nat, (UInt8.ofNat (e.trk / 256)).toNat = B1 := ⟨_, rfl⟩
  obtain ⟨B2, hB2⟩ : ∃ B2 : Nat, (UInt8.ofNat e.trk).toNat = B2 := ⟨_, rfl⟩
  obtain ⟨B3, hB3⟩ : ∃ B3 : Nat, (UInt8.ofNat e.rn).toNat = B3 := ⟨_, rfl⟩
  rw [hB1] at b1 hnext
  rw [hB2] at b2 hnext
  rw [hB3] at b3 hnext
  refine yr9 [1, 2, 4, 5, 6, 7, 39, 40, 41, 42] (by simp [c, cj]; rfl) ?_
  refine yh9 ?_
  refine yt9 (t := true) (by simp [c, cj]) (fun h => ?_) (fun h => by simp at h)
  refine yj9 ?_
  refine yh9 ?_
  refine yl9 ?_
  refine yr9 [1, 2, 4, 5, 6, 7, 39, 40, 41, 8, 9] (by simp [c, cj, hge, reA, he8, yg9, List.take_of_length_le]; rfl) ?_
  refine W_roB 9 (tk := 1) (x := reA e) rfl (by decide) (frz_re 4 e he8 rfl) (by simp) ?_
  refine ug9 4 (by simp) (by simp) (by simp [zj9, putF, AV.under, AV.underL]) (by show yb9 4 [O0, O1, O2, AObj.cells 5 (byL D)] = true; simp only [yb9, hu0, hu1, hu2, hu3, Bool.and_self]) ?_
  refine (show Wt true 0 Tryz.prog _ _ ⟨97, [(1, .v (.int .i64 (i : Nat))), (2, .loc 0 0), (4, .loc 1 0), (5, .v (.int .i64 (F : Nat))), (6, .lst .any 10 (reL P)), (7, .arr 3 0 256 (256 + k)), (39, .lst .any 10 (reL P)), (40, .v (.int .i64 (P.length : Nat))), (41, .v (.int .i64 (j : Nat))), (9, .ro (reA e)), (8, .v (.int .i64 (j : Nat)))], [O0, O1, O2, .cells 5 (byL D)]⟩ from ?_)
  refine yr9 [1, 2, 4, 5, 6, 7, 39, 40, 41, 9, 10] (by simp [wa1, wa2, ha2, ha3, ha4]; rfl) ?_
  refine W_rK [1, 2, 4, 5, 6, 7, 39, 40, 41, 9, 10] ?_
  refine yq9 3 (by simp [reA, he8, htk, maxLen]; rfl) rfl ?_
  refine runA_copy (t := 90) (t' := 90) (e := 5) (sz := 1) (id := 3) (off := a) (len := 256 - a) (cap := 256 + k - a) (ag := false) (oy := .any) (cs := byL D) (ys := byL e.key) (yc := byL e.key) (by simp) rfl rfl rfl rfl (by simp) (by simp) s90 (by omega) (by simp) (by simp [hDl]; omega) (by rw [List.take_of_length_le (by simp [he8]; omega)]; exact uv9 _) ?_
  rw [jw9]
  obtain ⟨C1, hC1⟩ : ∃ C1, yg9 (byL D) a (byL e.key) = C1 := ⟨_, rfl⟩
  have hC1l : C1.length = 256 + k := by rw [← hC1, zs9 _ _ _ (by simp [he8, hDl]; omega), xl9, hDl]
  rw [hC1] at hnext ⊢
  refine ⟨_, by simp; rfl, ?_⟩
  refine yw9 (by simp; rfl) ?_
  refine W_rE [1, 2, 4, 5, 6, 7, 39, 40, 41] ?_
  refine yq9 6 (by simp [reA, he8, hd8]; rfl) rfl ?_
  refine yq9 5 (by simp [reA, he8, hd8, b1]; rfl) rfl ?_
  refine yq9 5 (by simp [reA, he8, hd8, b2, b3]; rfl) rfl ?_
  refine yq9 2 (by simp [hC1l, show (8 : Int) < (256 - a : Nat) by omega, show 8 < 256 - a by omega, show a + 9 ≤ 256 + k by omega, show a + 8 + 1 ≤ 256 + k by omega]; rfl) rfl ?_
  obtain ⟨C2, hC2⟩ : ∃ C2, yg9 C1 (a + 8) [.v (.int .u8 (B1 : Nat))] = C2 := ⟨_, rfl⟩
  have hC2l : C2.length = 256 + k := by rw [← hC2, zs9 _ _ _ (by simp [hC1l]; omega), hC1l]
  rw [hC2] at hnext
  simp only [hC2]
  refine yq9 2 (by simp [hC2l, show (9 : Int) < (256 - a : Nat) by omega, show 9 < 256 - a by omega, show a + 10 ≤ 256 + k by omega, show a + 9 + 1 ≤ 256 + k by omega]; rfl) rfl ?_
  obtain ⟨C3, hC3⟩ : ∃ C3, yg9 C2 (a + 9) [.v (.int .u8 (B2 : Nat))] = C3 := ⟨_, rfl⟩
  have hC3l : C3.length = 256 + k := by rw [← hC3, zs9 _ _ _ (by simp [hC2l]; omega), hC2l]
  rw [hC3] at hnext
  simp only [hC3]
  refine yw9 (by simp [hC3l, show (10 : Int) < (256 - a : Nat) by omega, show 10 < 256 - a by omega, show a + 11 ≤ 256 + k by omega, show a + 10 + 1 ≤ 256 + k by omega, hnext]; rfl) ?_
  refine zp9 [1, 2, 4, 5, 6, 7, 39, 40, 41] (by simp [wj]; rfl) ?_
  exact ⟨_, by omega, j + 1, rfl, by omega, by simp⟩
 have hje : j = P.length := by omega
 subst hje
 refine yr9 [1, 2, 4, 5, 6, 7, 42] (by simp; rfl) ?_
 refine yh9 ?_
 refine yt9 rfl (fun h => by simp at h) (fun h => ?_)
 refine zd9 ?_
 have hdat : (datP P P.length k).take 256 = dataE P := by
  unfold datP dataE
  rw [List.take_length, show vk9 (254 - 12 * P.length + k) = List.replicate (254 - 12 * P.length) 0 ++ List.replicate k 0 by unfold vk9; rw [List.replicate_append_replicate], ← List.append_assoc, List.take_left' (by
   rw [List.length_append, List.length_append, xr8 hP8]
   simp
   omega)]
 obtain ⟨D, hD⟩ : ∃ D, datP P P.length k = D := ⟨_, rfl⟩
 rw [hD] at hDl hdat ⊢
 obtain ⟨o7, ho7, hf7⟩ := frz_by2 (H := [O0, O1, O2, AObj.cells 5 (byL D)]) (q := 3) (n := 256) (cq := 256 + k) (B := D) rfl (by omega)
 refine W_frz 7 (tk := 1) rfl (by decide) hf7 ?_
 rw [hdat]
 obtain ⟨DT, hDT⟩ : ∃ DT, dataE P = DT := ⟨_, rfl⟩
 rw [hDT]
 refine W_any 7 (o := o7) (sz := 1) (xs := byL DT) rfl ?_
 subst hO0
 subst hO1
 subst hO2
 refine (show Wt true 0 Tryz.prog _ _ ⟨97, [(1, .v (.int .i64 (i : Nat))), (2, .loc 0 0), (4, .loc 1 0), (5, .v (.int .i64 (F : Nat))), (6, .lst .any 10 (reL P)), (7, .lst .any 1 (byL DT)), (42, .v (.bool false))], [.cells 70 [.lst .any 10 (reL l), .v (.int .i64 (n0 : Nat))], .cells 100 [.v (.int .i64 0), .lst .nil 1 [], .lst .nil 1 [], .v (.bool false)], .froz 5 (byL Z), .froz 5 (byL D)]⟩ from ?_)
 refine W_rK [1, 2, 4, 5, 6, 7, 11] ?_
 refine yq9 1 (by simp; rfl) rfl ?_
 refine zm9 (f := 117) (args := [.lst (.tip 5 302) 1 [.v (.int .u8 255)], .v (.int .i64 8)]) (by simp) (by simp [xn9, zc9]) ((repeat8_callX 302 _ (by simp [yb9, AObj.under, AV.under, AV.underL])).mono ?_)
 rintro r h' ⟨k2, rfl, rfl⟩
 refine ⟨_, by simp; rfl, ?_⟩
 refine yw9 (by simp; rfl) ?_
 obtain ⟨o11, ho11, hf11⟩ := frz_room3 (h := [.cells 70 [.lst .any 10 (reL l), .v (.int .i64 (n0 : Nat))], .cells 100 [.v (.int .i64 0), .lst .nil 1 [], .lst .nil 1 [], .v (.bool false)], .froz 5 (byL Z), .froz 5 (byL D), AObj.cells 5 (kf9 [255, 255, 255, 255, 255, 255, 255, 255] k2)]) 4 8 8 [255, 255, 255, 255, 255, 255, 255, 255] k2 rfl rfl
 refine W_frz 11 (tk := 1) rfl (by decide) hf11 ?_
 refine (show Wt true 0 Tryz.prog _ _ ⟨97, [(1, .v (.int .i64 (i : Nat))), (2, .loc 0 0), (4, .loc 1 0), (5, .v (.int .i64 (F : Nat))), (6, .lst .any 10 (reL P)), (7, .lst .any 1 (byL DT)), (11, .lst o11 1 (byL ffL))], [.cells 70 [.lst .any 10 (reL l), .v (.int .i64 (n0 : Nat))], .cells 100 [.v (.int .i64 0), .lst .nil 1 [], .lst .nil 1 [], .v (.bool false)], .froz 5 (byL Z), .froz 5 (byL D), .froz 5 (byL [255, 255, 255, 255, 255, 255, 255, 255])]⟩ from ?_)
 refine W_any 11 (o := o11) (sz := 1) (xs := byL ffL) rfl ?_
 refine ym9 [1, 2, 4, 5, 6, 7, 11] ?_
 refine uf9 (fun σ => ∃ o, (o = .any ∨ ∃ T, o = .tip 5 T) ∧ σ = ⟨97, [(1, .v (.int .i64 (i : Nat))), (4, .loc 1 0), (7, .lst .any 1 (byL DT)), (11, .lst o 1 (byL (keyE l i)))], [.cells 70 [.lst .any 10 (reL l), .v (.int .i64 (n0 : Nat))], .cells 100 [.v (.int .i64 0), .lst .nil 1 [], .lst .nil 1 [], .v (.bool false)], .froz 5 (byL Z), .froz 5 (byL D), .froz 5 (byL [255, 255, 255, 255, 255, 255, 255, 255])]⟩) ?_ ?_
 ·by_cases c13 : m + 21 < l.length
  ·have hFm : F = m := by omega
   have c13i : ((F21 : Nat) : Int) < l.length := by omega
   have c13n : F21 < l.length := by omega
   have hPl : P.length = 21 := by rw [← hP, partE, List.length_take, List.length_drop]; omega
   have hPl1 : IntKind.i64.wrap ((P.length : Int) - 1) = 20 := by rw [hPl]; decide +kernel
   obtain ⟨e, he⟩ : ∃ e, P[20]? = some e := ⟨_, List.getElem?_eq_getElem (by omega)⟩
   have hge : P[20]'(by omega) = e := by rw [List.getElem?_eq_getElem (by omega)] at he; exact Option.some.inj he
   have h20 : 20 < P.length := by omega
   have he8 := hP8 e (List.mem_of_getElem? he)
   have htk := take_key he8
   have hkey : keyE l i = e.key := by
    unfold keyE
    rw [if_pos (by omega)]
    rw [← hP, partE, List.getElem?_take, if_pos (by omega), List.getElem?_drop] at he
    rw [List.getD_eq_getElem?_getD, he]
    rfl
   rw [hkey]
   have hcl := clone_sound e.key (by omega)
   refine yr9 [1, 2, 4, 5, 6, 7, 82] (by simp [w2, c13i, c13n]; rfl) ?_
   refine yt9 (t := true) (by simp [c13i, c13n]) (fun h => ?_) (fun h => by simp at h)
   refine W_rE [1, 4, 7, 11] ?_
   refine yq9 4 (by simp [hPl1]; rfl) rfl ?_
   refine yq9 3 (by simp [hPl1, h20, hge, reA, he8, htk, maxLen]; rfl) rfl ?_
   refine yf9 (by simp) (by first | (simp; done) | (simp; rfl)) hcl (by simp; rfl) ?_
   refine yw9 (by simp; rfl) ?_
   exact ⟨_, .inr ⟨181, rfl⟩, by simp [uw9]⟩
  ·have c13i : ¬ ((F21 : Nat) : Int) < l.length := by omega
   have c13n : ¬ F21 < l.length := by omega
   have hkey : keyE l i = ffL := by
    unfold keyE
    rw [if_neg (by omega)]
   rw [hkey]
   refine yr9 [1, 2, 4, 5, 6, 7, 11, 82] (by simp [w2, c13i, c13n]; rfl) ?_
   refine yt9 (t := false) (by simp [c13i, c13n]) (fun h => by simp at h) (fun h => ?_)
   refine ym9 [1, 4, 7, 11] ?_
   refine yj9 ?_
   exact ⟨.any, .inl rfl, by simp [uw9]⟩
 rintro _ ⟨o, ho, rfl⟩
 obtain ⟨K, hK⟩ : ∃ K, keyE l i = K := ⟨_, rfl⟩
 have wr1 : Int.tmod (i : Int) 6 = ((i % 6 : Nat) : Int) := by rw [Int.tmod_eq_emod_of_nonneg (by omega)]; omega
 have wr2 : IntKind.i64.wrap (((i % 6 : Nat) : Int) + 1) = ((i % 6 + 1 : Nat) : Int) := by rw [w64 (by omega) (by omega)]; omega
 obtain ⟨i6, hi6⟩ : ∃ i6, i % 6 = i6 := ⟨_, rfl⟩
 rw [hi6] at wr1 wr2
 rw [hK, show blkE l i = ⟨((i6 + 1 : Nat) : Int), K, DT, false⟩ by rw [blkE, hi6, hK, hP, hDT]]
 refine W_rK [4] ?_
 refine yq9 5 (by simp [wr1, wr2]; rfl) rfl ?_
 refine yw9 (by simp [yg9]; rfl) ?_
 refine yk9 ?_
 repeat (first | refine ys9 ?_ | refine yd9 ?_)
 rcases ho with rfl | ⟨T, rfl⟩
 all_goals exact ⟨_, by simp [retQ, frzV, frzL]; exact ⟨rfl, by simp [AV.rf, AV.rfL]⟩, .inr (by simp [AV.plain, AV.plainL])⟩
end Go.AM
