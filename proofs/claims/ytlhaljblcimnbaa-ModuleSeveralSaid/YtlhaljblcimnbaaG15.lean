/- Parts of the walk: C31SB C31SC. -/
import Derived.Test.YtlhaljblcimnbaaG14
namespace Go.AM
open Go.RowKit Go.Proofs
set_option linter.unusedSimpArgs false
set_option linter.unusedVariables false
set_option maxHeartbeats 8000000
def sdL (l : List SeedM) : List AV := l.map seedA
@[simp] theorem sdL_length (l : List SeedM) : (sdL l).length = l.length := by simp [sdL]
@[simp] theorem sdL_getElem (l : List SeedM) (i : Nat) (h : i < (sdL l).length) : (sdL l)[i] = seedA (l[i]'(by simpa using h)) := by simp [sdL]
structure SeedOk (x : SeedM) : Prop where
 t : ∀ n ∈ x.txts, n < 65536
 r : ∀ n ∈ x.rlds, n < 65536
 l1 : x.esds.length ≤ 9223372036854775000
 l4 : x.txts.length ≤ 9223372036854775000
 l2 : x.rlds.length ≤ 9223372036854775000
 l3 : x.data.length ≤ 9223372036854775000
theorem all2_refl {α : Type} {f : α → α → Bool} (h : ∀ x, f x x = true) : ∀ l : List α, all2 f l l = true
 | [] => rfl
 | x :: l => by rw [all2, h x, all2_refl h l]; rfl
theorem eqM_self (o : OMod) : eqM o o = true := by
 unfold eqM headE
 rw [all2_refl (fun x => by simp [esEq]), all2_refl (fun x => by simp [txEq]), all2_refl (fun x => by simp [rdEq])]
 simp
theorem egoE_80 (l : List Esd) (h : ∀ x ∈ l, (xf9 x.name).length ≤ 16) : ∀ (f i : Nat), ∀ b ∈ egoE l f i, b.length = 80
 | 0, i, b, hb => by simp [egoE] at hb
 | f + 1, i, b, hb => by
  rw [egoE] at hb
  split at hb
  ·rcases List.mem_cons.1 hb with rfl | hb
   ·exact (zj7 ((l.drop i).take 3) (by rw [List.length_take]; omega) fun x hx => h x (List.mem_of_mem_drop (List.mem_of_mem_take hx))).1
   ·exact egoE_80 l h f (i + 3) b hb
  ·simp at hb
theorem egoR_80 (l : List Rld) : ∀ (f i : Nat), ∀ b ∈ egoR l f i, b.length = 80
 | 0, i, b, hb => by simp [egoR] at hb
 | f + 1, i, b, hb => by
  rw [egoR] at hb
  split at hb
  ·rcases List.mem_cons.1 hb with rfl | hb
   ·exact (zh7 ((l.drop i).take 7) (by rw [List.length_take]; omega)).1
   ·exact egoR_80 l f (i + 7) b hb
  ·simp at hb
theorem encO_80 {o : OMod} (h : chkM o = true) : ∀ b ∈ encO o, b.length = 80 := by
 have hD := chkM_DOk h
 intro b hb
 rw [encO_B] at hb
 rcases List.mem_append.1 hb with hb | hb
 ·unfold encB at hb
  rcases List.mem_append.1 hb with hb | hb
  ·exact egoE_80 o.esd (fun x hx => by
    have h1 := seqE_name o.esd 1 hD.es x hx
    rw [xh8 h1.1, vg8]
    omega) _ _ b hb
  rcases List.mem_append.1 hb with hb | hb
  ·obtain ⟨t, ht, rfl⟩ := List.mem_map.1 hb
   exact (cardT_facts t (hD.ts t ht)).1
  ·exact egoR_80 o.rld _ _ b hb
 ·rw [List.mem_singleton.1 hb]
  exact (cardN_facts o.entry hD.en.1 hD.en.2).1
theorem encO_count {o : OMod} (h : chkM o = true) : 1 ≤ (encO o).length ∧ (encO o).length ≤ 6145 := by
 have hO := chkM_ok h
 have h1 := egoE_len2 o.esd o.esd.length 0
 have h2 := egoR_len2 o.rld o.rld.length 0
 have h3 := hO.l1
 have h4 := hO.l2
 have h5 := hO.l3
 unfold encO
 simp only [List.length_append, List.length_map, List.length_singleton]
 omega
theorem bbL_app (a b : List (List UInt8)) : bbL (a ++ b) = bbL a ++ bbL b := by simp [bbL]
theorem several_sound (l : List SeedM) (hl : l.length ≤ 9223372036854775000) (hs : ∀ x ∈ l, SeedOk x) : Sound Try.prog 5 [.lst .any 5 (sdL l)] (.v (.bool true)) := by
 refine zc9 Try.func5 rfl (by decide +kernel) (by simp [Try.f5]) (by simp [AV.rfL, AV.rf]) (by simp [AV.tlL, AV.tl]) (rs := [.tmp 2]) rfl ?_
 rw [show Try.f5.ntmps = 94 from rfl]
 refine yt9 [0] (by simp; rfl) ?_
 refine yh9 ?_
 refine W_rK [0, 15] ?_
 refine yl9 (by simp) (by first | (simp; done) | (simp; rfl)) works_sound (by simp; rfl) ?_
 refine yr9 (by simp; rfl) ?_
 refine yd9 rfl (fun h => by simp at h) (fun h => ?_)
 refine yc9 ?_
 refine yt9 [0, 3] (by simp; rfl) ?_
 refine yt9 [0, 3, 4] (by simp; rfl) ?_
 obtain ⟨OS, hOS⟩ : ∃ OS, (l.take 4).map objM = OS := ⟨_, rfl⟩
 have hOSv : ∀ o ∈ OS, chkM o = true := by
  intro o ho
  rw [← hOS] at ho
  obtain ⟨x, _, rfl⟩ := List.mem_map.1 ho
  exact objM_valid x
 have hOS4 : OS.length ≤ 4 := by rw [← hOS, List.length_map, List.length_take]; omega
 refine vq9 (fun σ => ∃ (x y : AV), (x = .lst .nil 1 [] ∧ OS = [] ∨ x = .lst (.tip 27 81) 1 (bbL (OS.flatMap encO)) ∧ OS ≠ []) ∧ (y = .lst .nil 4 [] ∧ OS = [] ∨ y = .lst (.tip 26 89) 4 (obL OS)) ∧ σ = ⟨94, [(3, x), (4, y)], []⟩) ?_ ?_
 ·refine yt9 [0, 3, 4, 5] (by simp; rfl) ?_
  refine yf9 ?_
  refine zm9 (fun k s => ∃ (i : Nat) (os : List OMod) (x y : AV), k = 4 - i ∧ i ≤ 4 ∧ i ≤ l.length ∧ os = (l.take i).map objM ∧ (x = .lst .nil 1 [] ∧ os = [] ∨ x = .lst (.tip 27 81) 1 (bbL (os.flatMap encO)) ∧ os ≠ []) ∧ (y = .lst .nil 4 [] ∧ os = [] ∨ y = .lst (.tip 26 89) 4 (obL os)) ∧
   s = ⟨94, [(0, .lst .any 5 (sdL l)), (3, x), (4, y), (5, .v (.int .i64 (i : Nat)))], []⟩) (k := 4) ⟨0, [], _, _, rfl, by omega, by omega, by simp, .inl ⟨rfl, rfl⟩, .inl ⟨rfl, rfl⟩, by simp⟩ ?_
  rintro k s ⟨i, os, x, y, rfl, hi4, hil, hos, hx, hy, rfl⟩
  refine yh9 ?_
  have leave : ¬ (i < l.length ∧ i < 4) → os = OS := by
   intro h
   rw [hos, ← hOS]
   rcases Nat.lt_or_ge i l.length with h1 | h1
   ·have : i = 4 := by omega
    rw [this]
   ·rw [List.take_of_length_le (by omega), List.take_of_length_le (by omega)]
  by_cases c : i < l.length
  rotate_left
  ·have ci : ¬ (i : Int) < l.length := by omega
   refine W_cF [3, 4, 23] (by simp [c, ci]; rfl) rfl ?_
   refine zg9 [3, 4] ?_
   refine zb9 ?_
   have := leave (by omega)
   subst this
   exact ⟨x, y, hx, hy, by simp⟩
  have ci : (i : Int) < l.length := by omega
  by_cases c4 : i < 4
  rotate_left
  ·have c4i : ¬ (i : Int) < 4 := by omega
   refine W_cF [3, 4, 23] (by simp [c, ci, c4, c4i]; rfl) rfl ?_
   refine zg9 [3, 4] ?_
   refine zb9 ?_
   have := leave (by omega)
   subst this
   exact ⟨x, y, hx, hy, by simp⟩
  have c4i : (i : Int) < 4 := by omega
  obtain ⟨sd, hsd⟩ : ∃ sd, l[i]? = some sd := ⟨_, List.getElem?_eq_getElem c⟩
  have hsd2 : l[i]'c = sd := by rw [List.getElem?_eq_getElem c] at hsd; exact Option.some.inj hsd
  have hsn : (l.take (i + 1)).map objM = os ++ [objM sd] := by rw [List.take_add_one, hsd, hos]; simp
  have hso := hs sd (List.mem_of_getElem? hsd)
  have hob := object_sound sd hso.t hso.r hso.l1 hso.l4 hso.l2 hso.l3
  have hval := objM_valid sd
  have hok := objM_ok sd
  obtain ⟨o, ho⟩ : ∃ o, objM sd = o := ⟨_, rfl⟩
  rw [ho] at hob hval hok hsn
  have hen := encO_sound o hok.1
  rw [encOR, if_pos hval] at hen
  have hcnt := encO_count hval
  have hosl : os.length = i := by rw [hos, List.length_map, List.length_take]; omega
  have hosv : ∀ o ∈ os, chkM o = true := by
   intro o ho
   rw [hos] at ho
   obtain ⟨x, _, rfl⟩ := List.mem_map.1 ho
   exact objM_valid x
  have hlen : ∀ (q : List OMod), (∀ o ∈ q, chkM o = true) → (q.flatMap encO).length ≤ 6145 * q.length := by
   intro q hq
   induction q with
   | nil => simp
   | cons o q ih =>
    have h1 := (encO_count (hq o (by simp))).2
    have h2 := ih fun y hy => hq y (by simp [hy])
    rw [List.flatMap_cons, List.length_append, List.length_cons]
    omega
  have hfl := hlen os hosv
  obtain ⟨C, hC⟩ : ∃ C, encO o = C := ⟨_, rfl⟩
  obtain ⟨A, hA⟩ : ∃ A, os.flatMap encO = A := ⟨_, rfl⟩
  rw [hC] at hen hcnt
  rw [hA] at hfl hx
  have hby : (A.length + C.length) * 24 ≤ 140737488355328 := by omega
  have hby0 : C.length * 24 ≤ 140737488355328 := by omega
  have hbw : (os.length + 1) * 88 ≤ 140737488355328 := by omega
  have hCn : bbL C ≠ [] := by
   intro e
   have := congrArg List.length e
   simp at this
   rw [this] at hcnt
   simp at hcnt
  have wi := w64 (n := (i : Int) + 1) (by omega) (by omega)
  have happ : bbL A ++ bbL C = bbL ((os ++ [o]).flatMap encO) := by rw [List.flatMap_append, List.flatMap_singleton, hA, hC, bbL_app]
  have hobn : obL (os ++ [o]) = obL os ++ [obA o] := by rw [obL_app, obL_one]
  refine W_cT [0, 3, 4, 5, 23] (by simp [c, ci, c4, c4i]; rfl) rfl ?_
  refine yc9 ?_
  refine yh9 ?_
  refine yf9 ?_
  refine W_rK [0, 3, 4, 5, 6] ?_
  refine yq9 4 (by simp [c, ci, hsd2]; rfl) rfl ?_
  refine yl9 (by simp) (by first | (simp; done) | (simp; rfl)) hob (by simp; rfl) ?_
  refine yr9 (by simp [yg9]; rfl) ?_
  refine W_rK [0, 3, 4, 5, 6, 7, 8] ?_
  refine yq9 1 (by simp; rfl) rfl ?_
  refine yl9 (by simp) (by simp [strB]; rfl) hen (by simp; rfl) ?_
  refine yr9 (by simp; rfl) ?_
  refine yh9 ?_
  refine W_cF [0, 3, 4, 5, 6, 7, 37] (by simp; rfl) rfl ?_
  refine yc9 ?_
  refine vq9 (fun σ => σ = ⟨94, [(0, .lst .any 5 (sdL l)), (3, .lst (.tip 27 81) 1 (bbL ((os ++ [o]).flatMap encO))), (4, y), (5, .v (.int .i64 (i : Nat))), (6, .loc 0 0)], [.cells 26 (obC o)]⟩) ?_ ?_
  ·rcases hx with ⟨rfl, ho0⟩ | ⟨rfl, _⟩
   ·have hA0 : A = [] := by rw [← hA, ho0]; rfl
    rw [hA0] at happ
    refine zd9 [0, 3, 4, 5, 6] (by simp [hby0, hCn]; rfl) ?_
    rw [← happ]
    rcases hy with ⟨rfl, _⟩ | rfl <;> simp [obC, strB, bbL]
   ·refine zd9 [0, 3, 4, 5, 6] (by simp [hby]; rfl) ?_
    rw [← happ]
    rcases hy with ⟨rfl, _⟩ | rfl <;> simp [obC, strB]
  rintro _ rfl
  obtain ⟨B, hB⟩ : ∃ B, bbL ((os ++ [o]).flatMap encO) = B := ⟨_, rfl⟩
  rw [hB]
  rcases hy with ⟨rfl, ho0⟩ | rfl
  ·subst ho0
   refine zd9 [0, 3, 4, 5] (by simp [hbw, obC, obL_nil, catK, AV.cellsK, AV.kone, AV.koneL, AV.weak, AV.weakL, strB]; rfl) ?_
   refine xk9 0 (Nat.zero_le _) (by simp) (by simp [yv9, AV.under, AV.underL, strB, ← hB]) (by simp [ys9]) ?_
   refine zd9 [0, 3, 4, 5] (by simp [wi]; rfl) ?_
   exact ⟨_, by omega, i + 1, [] ++ [o], _, _, rfl, by omega, by omega, hsn.symm, .inr ⟨rfl, by simp⟩, .inr rfl, by simp [← hB, obL, strB]⟩
  ·refine zd9 [0, 3, 4, 5] (by simp [hbw, obC, catK, AV.cellsK, AV.kone, AV.koneL, AV.weak, AV.weakL, strB]; rfl) ?_
   refine xk9 0 (Nat.zero_le _) (by simp) (by simp [yv9, AV.under, AV.underL, strB, ← hB]) (by simp [ys9]) ?_
   refine zd9 [0, 3, 4, 5] (by simp [wi]; rfl) ?_
   exact ⟨_, by omega, i + 1, os ++ [o], _, _, rfl, by omega, by omega, hsn.symm, .inr ⟨rfl, by simp⟩, .inr rfl, by simp [← hB, hobn, strB]⟩
 rintro _ ⟨x, y, hx, hy, rfl⟩
 have hfl : (OS.flatMap encO).length ≤ 24580 ∧ ∀ b ∈ OS.flatMap encO, b.length = 80 := by
  constructor
  ·have hlen : ∀ (q : List OMod), (∀ o ∈ q, chkM o = true) → (q.flatMap encO).length ≤ 6145 * q.length := by
    intro q hq
    induction q with
    | nil => simp
    | cons o q ih =>
     have h1 := (encO_count (hq o (by simp))).2
     have h2 := ih fun y hy => hq y (by simp [hy])
     rw [List.flatMap_cons, List.length_append, List.length_cons]
     omega
   have := hlen OS hOSv
   omega
  ·intro b hb
   obtain ⟨o, ho, hb⟩ := List.mem_flatMap.1 hb
   exact encO_80 (hOSv o ho) b hb
 have hdc := dcsP_all hOSv
 have hdo := wc8 (OS.flatMap encO) (by omega) (fun b hb => by rw [hfl.2 b hb]; omega)
 rw [hdc] at hdo
 simp only [if_true] at hdo
 have hsm : ∀ o ∈ OS, o.esd.length ≤ 1000000 ∧ o.txt.length ≤ 1000000 ∧ o.rld.length ≤ 1000000 := by
  intro o ho
  have := chkM_ok (hOSv o ho)
  exact ⟨by have := this.l1; omega, by have := this.l2; omega, by have := this.l3; omega⟩
 rcases hx with ⟨rfl, h0⟩ | ⟨rfl, hne⟩
 ·rw [h0] at hdo
  have hy0 : ∃ f, y = .lst f 4 [] ∧ (f = .nil ∨ f = .tip 26 89) := by
   rcases hy with ⟨rfl, _⟩ | rfl
   ·exact ⟨_, rfl, .inl rfl⟩
   ·rw [h0]; exact ⟨_, rfl, .inr rfl⟩
  obtain ⟨f, rfl, hf⟩ := hy0
  refine W_rK [3, 4, 9, 10] ?_
  refine yq9 1 (by simp; rfl) rfl ?_
  have hdo' : Sound Try.prog 20 [.lst .any 1 []] (.tup [.lst .any 4 (obL []), .v (.int .i64 0)]) := hdo
  refine yl9 (by simp) (by first | (simp; done) | (simp; rfl)) hdo' (by simp; rfl) ?_
  refine yr9 (by simp; rfl) ?_
  refine yh9 ?_
  refine W_cF [3, 4, 9, 58] (by simp [obL]; rfl) rfl ?_
  refine yc9 ?_
  refine vq9 (fun σ => σ = ⟨94, [(3, .lst .nil 1 [])], []⟩) ?_ ?_
  ·refine yt9 [3, 4, 9, 60, 61] (by simp [obL]; rfl) ?_
   refine yf9 ?_
   refine zm9 (fun k s => s = ⟨94, [(3, .lst .nil 1 []), (4, .lst f 4 []), (9, .lst .any 4 []), (60, .v (.int .i64 0)), (61, .v (.int .i64 0))], []⟩) (k := 0) (by simp [obL]) ?_
   rintro k s rfl
   refine yt9 [3, 62] (by simp; rfl) ?_
   refine yh9 ?_
   refine yd9 rfl (fun h => by simp at h) (fun h => ?_)
   refine zg9 [3] ?_
   refine zb9 ?_
   simp [yp9, inBlk]
  rintro _ rfl
  refine yh9 ?_
  refine W_cT [3, 77] (by simp; rfl) rfl ?_
  refine yt9 [2] (by simp; rfl) ?_
  refine zt9 ?_
  repeat (first | refine yj9 ?_ | refine yk9 ?_)
  simp [retQ]
 have hy0 : y = .lst (.tip 26 89) 4 (obL OS) := by
  rcases hy with ⟨_, h0⟩ | h
  ·exact absurd h0 hne
  ·exact h
 subst hy0
 have hcut := dcsP_cut hOSv hne
 have hpos : 1 ≤ (OS.flatMap encO).length := by
  cases hq : OS with
  | nil => exact absurd hq hne
  | cons o q =>
   have := (encO_count (hOSv o (by rw [hq]; simp))).1
   rw [List.flatMap_cons, List.length_append]
   omega
 have hdo2 := wc8 ((OS.flatMap encO).take ((OS.flatMap encO).length - 1)) (by rw [List.length_take]; omega) (fun b hb => by rw [hfl.2 b (List.mem_of_mem_take hb)]; omega)
 rw [hcut] at hdo2
 simp only [Bool.false_eq_true, if_false] at hdo2
 obtain ⟨A, hA⟩ : ∃ A, OS.flatMap encO = A := ⟨_, rfl⟩
 rw [hA] at hdo hdo2 hpos hfl ⊢
 have etk : List.take (A.length - 1) (bbL A) = bbL (A.take (A.length - 1)) := by rw [bbL_take]
 have wA : IntKind.i64.wrap ((A.length : Int) - 1) = ((A.length - 1 : Nat) : Int) := by rw [w64 (by omega) (by omega)]; omega
 have hA1 : A.length - 1 ≤ A.length := by omega
 have hA1i : ((A.length - 1 : Nat) : Int) ≤ A.length := by omega
 have hA0 : ¬ A.length = 0 := by omega
 have hA0i : ¬ (A.length : Int) = 0 := by omega
 have hA0b : ((A.length : Int) == 0) = false := by simpa using hA0i
 obtain ⟨a1, ha1⟩ : ∃ a, A.length - 1 = a := ⟨_, rfl⟩
 rw [ha1] at etk wA hA1 hA1i hdo2
 refine W_rK [3, 4, 9, 10] ?_
 refine yq9 1 (by simp; rfl) rfl ?_
 refine yl9 (by simp) (by first | (simp; done) | (simp; rfl)) hdo (by simp; rfl) ?_
 refine yr9 (by simp; rfl) ?_
 refine yh9 ?_
 refine W_cF [3, 4, 9, 58] (by simp; rfl) rfl ?_
 refine yc9 ?_
 refine vq9 (fun σ => σ = ⟨94, [(3, .lst (.tip 27 81) 1 (bbL A))], []⟩) ?_ ?_
 ·refine yt9 [3, 4, 9, 60, 61] (by simp; rfl) ?_
  refine yf9 ?_
  refine zm9 (fun k s => ∃ i : Nat, k = OS.length - i ∧ i ≤ OS.length ∧ s = ⟨94, [(3, .lst (.tip 27 81) 1 (bbL A)), (4, .lst (.tip 26 89) 4 (obL OS)), (9, .lst .any 4 (obL OS)), (60, .v (.int .i64 (OS.length : Nat))), (61, .v (.int .i64 (i : Nat)))], []⟩) (k := OS.length) ⟨0, rfl, by omega, by simp⟩ ?_
  rintro k s ⟨i, rfl, hi, rfl⟩
  by_cases c : i < OS.length
  rotate_left
  ·have ci : ¬ (i : Int) < OS.length := by omega
   refine yt9 [3, 62] (by simp [c, ci]; rfl) ?_
   refine yh9 ?_
   refine yd9 rfl (fun h => by simp at h) (fun h => ?_)
   refine zg9 [3] ?_
   refine zb9 ?_
   simp [yp9, inBlk]
  have ci : (i : Int) < OS.length := by omega
  obtain ⟨o, ho⟩ : ∃ o, OS[i]? = some o := ⟨_, List.getElem?_eq_getElem c⟩
  have ho2 : OS[i]'c = o := by rw [List.getElem?_eq_getElem c] at ho; exact Option.some.inj ho
  have wi := w64 (n := (i : Int) + 1) (by omega) (by omega)
  have hos := hsm o (List.mem_of_getElem? ho)
  have heq := objEqual_sound o o hos.1 hos.2.1 hos.2.2
  rw [eqM_self] at heq
  refine yt9 [3, 4, 9, 60, 61, 62] (by simp [c, ci]; rfl) ?_
  refine yh9 ?_
  refine yd9 rfl (fun h => ?_) (fun h => by simp at h)
  refine yc9 ?_
  refine yh9 ?_
  refine yf9 ?_
  refine yt9 [3, 4, 9, 60, 61, 11] (by simp; rfl) ?_
  refine zk7 [3, 4, 9, 60, 61, 73] mx (by decide +kernel) ?_
  refine yw9 8 (by simp [c, ci, ho2]; rfl) rfl ?_
  refine ym9 (by simp) (by first | (simp [strB]; done) | (simp [strB]; rfl)) heq (by simp; rfl) ?_
  refine zq9 (by simp; rfl) ?_
  refine yd9 rfl (fun h => by simp at h) (fun h => ?_)
  refine yc9 ?_
  refine zd9 [3, 4, 9, 60, 61] (by simp [wi]; rfl) ?_
  exact ⟨_, by omega, i + 1, rfl, by omega, by simp⟩
 rintro _ rfl
 refine yh9 ?_
 refine W_cF [3, 77] (by simp [hA0, hA0i, hA0b]; rfl) rfl ?_
 refine yc9 ?_
 refine W_rK [12, 13] ?_
 refine yq9 5 (by simp [wA, hA1, hA1i, etk]; rfl) rfl ?_
 refine yl9 (by simp) (by first | (simp; done) | (simp; rfl)) hdo2 (by simp; rfl) ?_
 refine yr9 (by simp; rfl) ?_
 refine yt9 [2] (by simp [obL]; rfl) ?_
 refine zt9 ?_
 repeat (first | refine yj9 ?_ | refine yk9 ?_)
 simp [retQ]
end Go.AM
namespace Go.AM
open Go.RowKit Go.Proofs
set_option linter.unusedSimpArgs false
set_option linter.unusedVariables false
set_option maxHeartbeats 1000000
section
variable {P : Program}
theorem ty_seeds (T : TF P) (u46 : P.underlying 46 = some (.slice 30)) (b30 : P.bytesOf 30 = 104) {n : Nat} {x : AV} (h : TyV P (n + 6) 46 x) : ∃ l : List SeedM, x.dp = .lst .any 5 (sdL l) ∧ l.length ≤ 9223372036854775000 ∧ ∀ s ∈ l, SeedOk s := by
 obtain ⟨o, l, rfl, _, hl, hy⟩ := ty_slice (n := n + 5) u46 h
 obtain ⟨bs, h1, h2, h3⟩ := dpL_choose (F := seedA) (Q := SeedOk) (l := l) fun y hm => by
  obtain ⟨s, hs, j1, j2, j3, j4, j5, j6⟩ := ty_seed T (hy y hm)
  exact ⟨s, hs, ⟨j1, j2, j3, j4, j5, j6⟩⟩
 exact ⟨bs, by simp only [AV.dp, h1, T.c30]; rfl, by rw [b30] at hl; omega, h3⟩
theorem tyAll1 {n : Nat} {a : TypeId} {xs : List AV} (h : TyAll P n [a] xs) : ∃ x, xs = [x] ∧ TyV P n a x := by
 match xs with
 | [] => exact h.elim
 | _ :: _ :: _ => exact h.2.elim
 | [x] => exact ⟨x, rfl, h.1⟩
end
theorem several_law {n : Nat} {xs : List AV} (hx : TyAll Try.prog (n + 6) [46] xs) : Sound Try.prog 5 xs (.v (.bool true)) := by
 obtain ⟨x, rfl, h1⟩ := tyAll1 hx
 obtain ⟨l, hl, k1, k2⟩ := ty_seeds tf (by kernel_rfl) (by kernel_rfl) h1
 refine Sound.dp ?_
 have e : AV.dpL [x] = [.lst .any 5 (sdL l)] := by simp only [AV.dpL, hl]
 rw [e]
 exact several_sound l k1 k2
end Go.AM
