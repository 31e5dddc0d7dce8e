/- Parts of the walk: C31SK. -/
import Derived.Test.YtlhaljblcimnbaaG16
namespace Go.AM
open Go.RowKit Go.Proofs
set_option linter.unusedSimpArgs false
set_option linter.unusedVariables false
set_option maxHeartbeats 8000000
theorem tlL_appK (xs ys : List AV) : AV.tlL (xs ++ ys) = (AV.tlL xs && AV.tlL ys) := tlL_app31 xs ys
theorem tlL_flE (l : List Esd) : AV.tlL (flC esC l) = true := by
 induction l with
 | nil => rfl
 | cons x l ih => rw [vk8, tlL_appK, ih]; simp [esC, strB, AV.tlL, AV.tl]
theorem weakL_esC31 (x : Esd) : AV.weakL (esC x) = esC x := by simp [esC, strB, AV.weakL, AV.weak]
def zEs : List AV := [.v (.string ⟨#[]⟩), .v (.int .i64 0), .v (.int .i64 0), .v (.int .i64 0), .v (.int .i64 0)]
theorem repC_lenE : ∀ n, (repC n zEs).length = n * 5 := fun n => by rw [vd8]; rfl
theorem tlL_repE (n : Nat) : AV.tlL (repC n zEs) = true := by
 refine vt8.2 fun y hy => ?_
 obtain ⟨j, hj, hy⟩ := List.mem_iff_getElem.1 hy
 have hm : ∀ n, ∀ y ∈ repC n zEs, y ∈ zEs := by
  intro n
  induction n with
  | zero => intro y hy; simp [repC] at hy
  | succ n ih =>
   intro y hy
   simp only [repC, List.mem_append] at hy
   rcases hy with h | h
   ·exact h
   ·exact ih y h
 have := hm n y (hy ▸ List.getElem_mem hj)
 simp only [zEs, List.mem_cons, List.not_mem_nil, or_false] at this
 rcases this with rfl | rfl | rfl | rfl | rfl <;> rfl
def ArrE (l : List Esd) (x : AV) (H : List AObj) : Prop := ∃ id cap rs, x = .arr id 0 l.length cap ∧ id ≠ 0 ∧ H[id]? = some (.cells 78 (flC esC l ++ rs)) ∧ rs.length = (cap - l.length) * 5 ∧ l.length ≤ cap ∧ AV.tlL rs = true
theorem app_stepE {s s1 : St} {x1 : AV} {y : Esd} {id cap j : Nat} {l : List Esd} {rs : List AV} (hlj : l.length = j) (h0 : id ≠ 0) (hl : 0 < s.h.length) (hid : s.h[id]? = some (.cells 78 (flC esC l ++ rs))) (hrs : rs.length = (cap - j) * 5) (hj : j ≤ cap) (htl : AV.tlL rs = true)
  (hq : appQ s 78 5 id j cap 1 (esC y) (flC esC l ++ rs) zEs s1 x1) : ∃ h', s1 = ⟨s.n, s.fr, h'⟩ ∧ ArrE (l ++ [y]) x1 h' ∧ h'[0]? = s.h[0]? := by
 subst hlj
 have hidl : id < s.h.length := (List.getElem?_eq_some_iff.1 hid).1
 have hfl : (flC esC l).length = l.length * 5 := yd8 xd8 l
 have hsn : flC esC (l ++ [y]) = flC esC l ++ esC y := by simp [flC]
 have hln : (l ++ [y]).length = l.length + 1 := by simp
 rcases hq with ⟨h1, rfl, rfl⟩ | ⟨h1, cap', h2, h3, rfl, rfl⟩
 ·refine ⟨_, rfl, ⟨id, cap, rs.drop 5, by rw [hln], h0, ?_, ?_, by omega, ?_⟩, List.getElem?_set_ne h0⟩
  ·rw [List.getElem?_set_self hidl, weakL_esC31, hsn, ← hfl]
   have := setSeg_skip31 (flC esC l) rs 0 (esC y)
   rw [Nat.add_zero] at this
   rw [this]
   have e : yf9 rs 0 (esC y) = esC y ++ rs.drop 5 := by simp [yf9, esC]
   rw [e, List.append_assoc]
  ·rw [List.length_drop, hrs, hln]; omega
  ·exact tlL_sub htl fun y hy => List.mem_of_mem_drop hy
 ·refine ⟨_, rfl, ⟨s.h.length, cap', repC (cap' - (l.length + 1)) zEs, by rw [hln], by omega, ?_, ?_, by omega, tlL_repE _⟩, List.getElem?_append_left hl⟩
  ·simp only [List.getElem?_append_right (Nat.le_refl _), Nat.sub_self, List.getElem?_cons_zero]
   rw [weakL_esC31, hsn, ← hfl, List.take_left' rfl, List.append_assoc]
  ·rw [repC_lenE, hln]
def esN (i : Nat) : Esd := ⟨[UInt8.ofNat (65 + i)], 1, ((i + 1 : Nat) : Int), ((100 * i : Nat) : Int), 100⟩
def esN7 : List Esd := (List.range 7).map esN
def esK (k : Nat) : List Esd := (List.range 7).map fun i => if i = 1 then ⟨[66], 2, 7, 700, 0⟩ else if 2 ≤ i ∧ i < k then ⟨[UInt8.ofNat (65 + i)], 1, (i : Nat), ((100 * i : Nat) : Int), 100⟩ else esN i
def esF : List Esd := (esK 7).set 1 ⟨[66], 2, 6, 700, 0⟩
def nmsA : AV := .agg [strB [65], strB [66], strB [67], strB [68], strB [69], strB [70], strB [71]]
def boxE (x : AV) : AObj := .cells 26 [x, .lst .nil 3 [], .lst .nil 5 [], .v (.string ⟨#[66]⟩)]
theorem frz_es7 {h : List AObj} {id cap : Nat} {l : List Esd} {rs : List AV} (hid : h[id]? = some (.cells 78 (flC esC l ++ rs))) : ∃ o h', wt9 Try.prog h 1 id 0 l.length cap = some (.lst o 5 (esL l), h') ∧ (o = .any ∨ o = .tip 78 1) := by
 have hv : ∀ x : Esd, ∀ y ∈ esC x, ∃ v, y = .v v ∧ v.oneCell' = true := by simp [esC, strB, Value.oneCell']
 obtain ⟨a1, a2, a3, a4, a5⟩ := vals_all (flC_vals hv l)
 have hlen := yd8 xd8 l
 have hw : AV.weakL (flC esC l ++ rs) = flC esC l ++ AV.weakL rs := by rw [yd7, a1]
 have ht : (flC esC l ++ rs).take (0 + l.length * 5) = flC esC l := by rw [Nat.zero_add, ← hlen, List.take_left']; rfl
 have he : (l.map fun x => AV.agg (esC x)) = esL l := rfl
 have hty : tyI Try.prog 78 = some (true, 5) := by simp
 unfold wt9
 simp only [hid, hty]
 split
 ·rw [hw, List.drop_zero, chunk_flC xd8, he]
  refine ⟨_, _, rfl, ?_⟩
  split
  ·exact .inr rfl
  ·exact .inl rfl
 ·rw [if_pos (by rw [ht]; exact ⟨by omega, .inl trivial, by simp [hlen], a4, a3⟩), ht, a1, List.drop_zero]
  have hc := chunk_flC xd8 l []
  rw [List.append_nil] at hc
  rw [hc, he]
  exact ⟨_, _, rfl, .inl rfl⟩
def Arr7 (l : List Esd) (H : List AObj) : Prop := ∃ id cap rs, id ≠ 0 ∧ H[0]? = some (boxE (.arr id 0 7 cap)) ∧ H[id]? = some (.cells 78 (flC esC l ++ rs)) ∧ rs.length = (cap - 7) * 5 ∧ 7 ≤ cap ∧ l.length = 7
def zL (n : Nat) : List UInt8 := List.replicate n 0
theorem frzZ {h : List AObj} {id n : Nat} (hg : h[id]? = some (.cells 5 (repC n [.v (.int .u8 0)]))) : wt9 Try.prog h 1 id 0 n n = some (.lst (.tip 5 1) 1 (byL (zL n)), h.set id (.froz 5 (byL (zL n)))) := by
 have e : repC n [.v (.int .u8 0)] = byL (zL n) := repC_bytes n
 have hl : (zL n).length = n := by simp [zL]
 rw [e] at hg
 have e2 : tyI Try.prog 5 = some (false, 1) := by simp
 unfold wt9
 simp only [hg, e2]
 rw [if_pos ⟨by omega, .inr trivial, by simp [hl], yv7 _, rfL_byL _⟩, ys7, List.drop_zero, xg8 _ _ (by rw [hl]; exact Nat.le_refl n)]
 simp [hl, List.take_of_length_le]
theorem frzT1 {h : List AObj} {id : Nat} {a b : Int} {l : List UInt8} (hg : h[id]? = some (.cells 73 [.v (.int .i64 a), .v (.int .i64 b), .lst .any 1 (byL l)])) :
  wt9 Try.prog h 1 id 0 1 1 = some (.lst (.tip 73 1) 3 [.agg [.v (.int .i64 a), .v (.int .i64 b), .lst .any 1 (byL l)]], h.set id (.froz 73 [.v (.int .i64 a), .v (.int .i64 b), .lst .any 1 (byL l)])) := by
 have e2 : tyI Try.prog 73 = some (true, 3) := by simp
 unfold wt9
 simp only [hg, e2]
 simp [AV.koneL, AV.kone, AV.rfL, AV.rf, chunk, AV.weakL, AV.weak, Value.oneCell']
def R8 : List Rld := (List.range 8).map fun i => ⟨1, ((1 + i % 6 : Nat) : Int), 96, 4, decide (i = 7)⟩
def boxR (x : AV) : AObj := .cells 26 [.lst .any 5 (esL esF), x, .lst (.tip 80 159) 5 (rdL R8), .v (.string ⟨#[66]⟩)]
def RK : List Rlo := (List.range 201).map fun i => ⟨((4 * i : Nat) : Int), 4, false⟩
def SK : List Seg := [⟨-1, 0, 0, 2000⟩, ⟨0, 2000, 2000, 500⟩]
def boxL (x : AV) : AObj := .cells 40 [.lst .any 1 (byL (zL 2500)), x, .lst (.tip 83 762) 4 (sgL SK), .v (.int .i64 0)]
theorem frz_sg2 {h : List AObj} {id cap k : Nat} {l : List Seg} (hid : h[id]? = some (.cells 83 (flC segC l ++ List.replicate k .any))) : ∃ o, (o = .any ∨ o = .tip 83 1) ∧ wt9 Try.prog h 1 id 0 l.length cap = some (.lst o 4 (sgL l), h.set id (.froz 83 (flC segC l))) := by
 obtain ⟨a1, a2, a3, a4, a5⟩ := vals_all (flC_vals segC_vals l)
 have hlen := yd8 zl7 l
 have hw : AV.weakL (flC segC l ++ List.replicate k .any) = flC segC l ++ List.replicate k .any := by rw [yd7, a1, weakL_rep31]
 have ht : (flC segC l ++ List.replicate k AV.any).take (0 + l.length * 4) = flC segC l := by rw [Nat.zero_add, ← hlen, List.take_left']; rfl
 have he : (l.map fun x => AV.agg (segC x)) = sgL l := rfl
 have hty : tyI Try.prog 83 = some (true, 4) := by simp
 unfold wt9
 simp only [hid, hty]
 cases k with
 | zero =>
  rw [List.replicate_zero, List.append_nil]
  rw [if_pos ⟨by omega, .inl trivial, by omega, a4, a3⟩, a1, List.drop_zero]
  have hc := chunk_flC zl7 l []
  rw [List.append_nil] at hc
  rw [hc, he]
  refine ⟨_, ?_, rfl⟩
  split
  ·exact .inr rfl
  ·exact .inl rfl
 | succ k =>
  have h3 : AV.koneL (flC segC l ++ List.replicate (k + 1) .any) = false := by
   rw [vj8, List.replicate_succ]
   simp [AV.koneL, AV.kone]
  rw [if_neg (by rw [h3]; simp), if_pos (by rw [ht]; exact ⟨by omega, .inl trivial, by simp [hlen], a4, a3⟩), ht, a1, List.drop_zero]
  have hc := chunk_flC zl7 l []
  rw [List.append_nil] at hc
  rw [hc, he]
  exact ⟨_, .inl rfl, rfl⟩
def knW : KnF := fun f args => if f = 14 then (if args = [] then some (.v (.bool true)) else none) else knE f args
theorem knW_ok : KnOk Try.prog knW := by
 intro f args r h
 unfold knW at h
 split at h
 ·rename_i hf
  subst hf
  split at h
  ·rename_i ha
   cases h
   subst ha
   exact works_sound
  ·cases h
 ·exact knE_ok f args r h
theorem known_sound : Sound Try.prog 9 [] (.v (.bool true)) := by
 refine zj9 Try.func9 rfl (by decide +kernel) (by decide +kernel) rfl rfl (rs := [.tmp 0]) rfl ?_
 rw [show Try.f9.ntmps = 348 from rfl]
 refine yt9 [] (by simp; rfl) ?_
 refine yt9 [1] (by simp [yf9]; rfl) ?_
 refine wm8 (fun σ => ∃ x H, H[0]? = some (boxE x) ∧ ArrE esN7 x H ∧ σ = ⟨348, [(1, .loc 0 0)], H⟩) ?_ ?_
 ·refine yt9 [1, 31, 32] (by simp [yf9]; rfl) ?_
  refine yg9 ?_
  refine xs9 (fun k s => ∃ (i : Nat) (x : AV) (H : List AObj), k = 7 - i ∧ i ≤ 7 ∧ H[0]? = some (boxE x) ∧ (i = 0 ∧ x = .lst .nil 5 [] ∧ H = [boxE (.lst .nil 5 [])] ∨ 0 < i ∧ ArrE ((List.range i).map esN) x H) ∧ s = ⟨348, [(1, .loc 0 0), (31, nmsA), (32, .v (.int .i64 (i : Nat)))], H⟩) (k := 7) ⟨0, _, _, rfl, by omega, rfl, .inl ⟨rfl, rfl, rfl⟩, by simp [nmsA, strB, boxE]⟩ ?_
  rintro k s ⟨i, x, H, rfl, hi, h0, hx, rfl⟩
  by_cases c : i < 7
  rotate_left
  ·have hi7 : i = 7 := by omega
   subst hi7
   refine yt9 [1, 33] (by simp; rfl) ?_
   refine yk9 ?_
   refine yd9 rfl (fun h => by simp at h) (fun h => ?_)
   refine zc9 [1] ?_
   refine xr9 ?_
   rcases hx with ⟨h, _⟩ | ⟨_, hx⟩
   ·omega
   ·exact ⟨x, H, h0, hx, by simp⟩
  have ci : (i : Int) < 7 := by omega
  have wi := w64 (n := (i : Int) + 1) (by omega) (by omega)
  have wm := w64 (n := 100 * (i : Int)) (by omega) (by omega)
  obtain ⟨S, hS⟩ : ∃ S, UInt8.ofNat (65 + i) = S := ⟨_, rfl⟩
  have hes : esC (esN i) = [.v (.string ⟨#[S]⟩), .v (.int .i64 1), .v (.int .i64 ((i : Int) + 1)), .v (.int .i64 (100 * (i : Int))), .v (.int .i64 100)] := by simp [esN, esC, strB, hS]
  have hrg : (List.range (i + 1)).map esN = (List.range i).map esN ++ [esN i] := by rw [List.range_succ, List.map_append]; rfl
  obtain ⟨NM, hNM⟩ : ∃ a, nmsA = a := ⟨_, rfl⟩
  rw [hNM]
  refine yt9 [1, 31, 32, 33] (by simp [ci]; rfl) ?_
  refine yk9 ?_
  refine yd9 rfl (fun h => ?_) (fun h => by simp at h)
  refine yc9 ?_
  refine yk9 ?_
  refine yg9 ?_
  refine wm8 (fun σ => σ = ⟨348, [(1, .loc 0 0), (31, NM), (32, .v (.int .i64 (i : Nat))), (2, .v (.int .i64 (i : Nat))), (3, .v (.string ⟨#[S]⟩))], H⟩) ?_ ?_
  ·rw [← hNM, ← hS]
   have hh : i = 0 ∨ i = 1 ∨ i = 2 ∨ i = 3 ∨ i = 4 ∨ i = 5 ∨ i = 6 := by omega
   rcases hh with rfl | rfl | rfl | rfl | rfl | rfl | rfl
   all_goals
    refine zl9 [1, 31, 32, 2, 3] (by simp [nmsA, strB]; rfl) ?_
    simp [nmsA, strB]
  rintro _ rfl
  have w1 : IntKind.i64.wrap 1 = 1 := by decide
  have w0 : IntKind.i64.wrap 0 = 0 := by decide
  have hb1 : (1 : Nat) * 48 ≤ 140737488355328 := by omega
  have fin : ∀ (x' : AV) (h' : List AObj), h'[0]? = some (boxE x') → ArrE ((List.range (i + 1)).map esN) x' h' →
    ∃ k', k' < 7 - i ∧ ∃ (i' : Nat) (x : AV) (H : List AObj), k' = 7 - i' ∧ i' ≤ 7 ∧ H[0]? = some (boxE x) ∧ (i' = 0 ∧ x = .lst .nil 5 [] ∧ H = [boxE (.lst .nil 5 [])] ∨ 0 < i' ∧ ArrE ((List.range i').map esN) x H) ∧ (⟨348, [(1, .loc 0 0), (31, NM), (32, .v (.int .i64 ((i : Int) + 1)))], h'⟩ : St) = ⟨348, [(1, .loc 0 0), (31, NM), (32, .v (.int .i64 (i' : Nat)))], H⟩ := by
   intro x' h' q1 q2
   exact ⟨_, by omega, i + 1, x', h', rfl, by omega, q1, .inr ⟨by omega, q2⟩, by simp⟩
  rcases hx with ⟨rfl, rfl, rfl⟩ | ⟨hi0, id, cap, rs, rfl, hne, hid, hrs, hcap, htl⟩
  ·refine W_rE [1, 31, 32] ?_
   refine yq9 4 (by simp [boxE]; rfl) rfl ?_
   refine yq9 5 (by simp [boxE]; rfl) rfl ?_
   refine runA_nilA (t := 22) (e := 78) (sz := 5) (by_ := 48) (m := 1) (s0 := 5) (x0 := []) (yc := esC (esN 0)) (by simp) rfl rfl rfl rfl (by simp) (by simp [srcA, catK, AV.cellsK, AV.kone, AV.koneL, AV.weakL, AV.weak, yf9, esN, esC, strB, ← hS, w1, w0, Value.oneCell']) s22 a78 z78 (by simp) (by omega) (by omega) ?_
   intro cap' h1 h2
   refine ⟨_, by simp; rfl, ?_⟩
   refine yr9 (by simp [boxE, yf9]; rfl) ?_
   refine zl9 [1, 31, 32] (by simp [wi, w1]; rfl) ?_
   refine fin (.arr 1 0 1 cap') [boxE (.arr 1 0 1 cap'), .cells 78 (esC (esN 0) ++ repC (cap' - 1) zEs)] rfl ⟨1, cap', repC (cap' - 1) zEs, by simp, by omega, by simp [flC, zEs], by rw [repC_lenE]; simp, by simpa using h1, tlL_repE _⟩
  ·have hll : ((List.range i).map esN).length = i := by simp
   obtain ⟨L, hL⟩ : ∃ L, (List.range i).map esN = L := ⟨_, rfl⟩
   rw [hL] at hid hrs hcap hll hrg
   rw [hll] at hrs hcap
   have htl2 : AV.tlL (flC esC L ++ rs) = true := by rw [tlL_appK, tlL_flE, htl]; rfl
   have hfl : (flC esC L).length = L.length * 5 := yd8 xd8 L
   have hcs : (flC esC L ++ rs).length = cap * 5 := by rw [List.length_append, hfl, hrs, hll]; omega
   have h0l : 0 < H.length := (List.getElem?_eq_some_iff.1 h0).1
   have hbo : ∀ T, (boxE (.arr id 0 i cap)).kill T = boxE (.arr id 0 i cap) := fun T => rfl
   have hb7 : (i + 1) * 48 ≤ 140737488355328 := by omega
   refine W_rE [1, 31, 32] ?_
   refine yq9 4 (by simp [h0, boxE]; rfl) rfl ?_
   refine yq9 5 (by simp [wi, wm]; rfl) rfl ?_
   refine runA_app (t := 22) (e := 78) (sz := 5) (by_ := 48) (id := id) (len := i) (cap := cap) (ys := [esA (esN i)]) (cs := flC esC L ++ rs) (yc := esC (esN i)) (by simp) rfl rfl rfl rfl (by simp) (by simp [AV.weakL, AV.weak, yf9, esN, strB, hS]; rfl) s22 a78 z78 (by simp) (by simp [hid, xq7 _ htl2]) hcs (by simp [catK, AV.cellsK, AV.kone, AV.koneL, esN, esC, strB, Value.oneCell']) (by simpa using hb7) ?_
   intro s1 x1 hq
   obtain ⟨h', rfl, k1, k2⟩ := app_stepE hll hne (by simpa using h0l) (by simp [hid, xq7 _ htl2]) hrs hcap htl hq
   rw [← hrg] at k1
   have k3 : h'[0]? = some (boxE (.arr id 0 i cap)) := by rw [k2]; simp [h0, hbo]
   have h0l' : 0 < h'.length := (List.getElem?_eq_some_iff.1 k3).1
   obtain ⟨id', cap', rs', rfl, e2, e3, e4, e5, e6⟩ := k1
   refine ⟨_, by simp; rfl, ?_⟩
   refine yr9 (by simp [k3, boxE, yf9]; rfl) ?_
   refine zl9 [1, 31, 32] (by simp [wi]; rfl) ?_
   exact fin (.arr id' 0 (i + 1) cap') (h'.set 0 (boxE (.arr id' 0 (i + 1) cap'))) (List.getElem?_set_self h0l') ⟨id', cap', rs', by simp, e2, by rw [List.getElem?_set_ne (Ne.symm e2)]; exact e3, e4, e5, e6⟩
 rintro _ ⟨x, H, h0, ⟨id, cap, rs, rfl, hne, hid, hrs, hcap, htl⟩, rfl⟩
 rw [show esN7.length = 7 from rfl] at h0 hrs hcap
 have hidl : id < H.length := (List.getElem?_eq_some_iff.1 hid).1
 have hfl : ∀ l : List Esd, l.length = 7 → (flC esC l ++ rs).length = cap * 5 := fun l hl => by rw [List.length_append, yd8 xd8, hrs, hl]; omega
 have h1c : (1 : Int) < 7 := by omega
 have hset : ∀ (l : List Esd) (k : Nat) (e : Esd), l[k]? = some e → ∀ (j : Nat) (ys : List AV) (e' : Esd), yf9 (esC e) j ys = esC e' → j + ys.length ≤ 5 → yf9 (flC esC l ++ rs) (k * 5 + j) ys = flC esC (l.set k e') ++ rs := fun l k e h j ys e' hr hj => flC_set xd8 h rs j ys hr hj
 refine wm8 (fun σ => ∃ H, Arr7 (esK 2) H ∧ σ = ⟨348, [(1, .loc 0 0)], H⟩) ?_ ?_
 ·have hs1 := hset esN7 1 (esN 1) rfl 0 (esC ⟨[66], 2, 7, 700, 0⟩) ⟨[66], 2, 7, 700, 0⟩ rfl (by decide)
  have hk : esN7.set 1 ⟨[66], 2, 7, 700, 0⟩ = esK 2 := rfl
  rw [hk] at hs1
  have hl7 := hfl esN7 rfl
  have q5 : 5 + 5 ≤ cap * 5 := by omega
  simp only [esC, strB] at hs1
  refine W_rE [1] ?_
  refine yq9 3 (by simp [h0, boxE, yf9]; rfl) rfl ?_
  refine yr9 (by simp [hid, hl7, q5, hne, h1c, hs1]; rfl) ?_
  refine ⟨_, ⟨id, cap, rs, hne, ?_, List.getElem?_set_self hidl, hrs, hcap, rfl⟩, by simp⟩
  rw [List.getElem?_set_ne hne]
  exact h0
 rintro _ ⟨H, hA, rfl⟩
 refine wm8 (fun σ => ∃ H, Arr7 (esK 7) H ∧ σ = ⟨348, [(1, .loc 0 0)], H⟩) ?_ ?_
 ·refine yt9 [1, 4] (by simp; rfl) ?_
  refine yg9 ?_
  refine xs9 (fun k s => ∃ (i : Nat) (H : List AObj), k = 7 - i ∧ 2 ≤ i ∧ i ≤ 7 ∧ Arr7 (esK i) H ∧ s = ⟨348, [(1, .loc 0 0), (4, .v (.int .i64 (i : Nat)))], H⟩) (k := 5) ⟨2, H, rfl, by omega, by omega, hA, by simp⟩ ?_
  rintro k s ⟨i, H, rfl, hi2, hi7, hA, rfl⟩
  refine yk9 ?_
  by_cases c : i < 7
  rotate_left
  ·have hi : i = 7 := by omega
   subst hi
   refine W_cF [1, 53] (by simp; rfl) rfl ?_
   refine zc9 [1] ?_
   refine xr9 ?_
   exact ⟨H, hA, by simp⟩
  have ci : (i : Int) < 7 := by omega
  obtain ⟨id, cap, rs, hne, h0, hid, hrs, hcap, hl⟩ := hA
  have hidl : id < H.length := (List.getElem?_eq_some_iff.1 hid).1
  have hl7 : (flC esC (esK i) ++ rs).length = cap * 5 := by rw [List.length_append, yd8 xd8, hrs, hl]; omega
  have wi := w64 (n := (i : Int) + 1) (by omega) (by omega)
  have hgi : (esK i)[i]? = some (esN i) ∧ (esK i).set i ⟨[UInt8.ofNat (65 + i)], 1, (i : Nat), ((100 * i : Nat) : Int), 100⟩ = esK (i + 1) := by
   have hh : i = 2 ∨ i = 3 ∨ i = 4 ∨ i = 5 ∨ i = 6 := by omega
   rcases hh with rfl | rfl | rfl | rfl | rfl <;> exact ⟨rfl, rfl⟩
  have hs := flC_set xd8 hgi.1 rs 2 [.v (.int .i64 (i : Nat))] (r' := ⟨[UInt8.ofNat (65 + i)], 1, (i : Nat), ((100 * i : Nat) : Int), 100⟩) (by simp [esN, esC, strB, yf9]) (by simp)
  rw [hgi.2] at hs
  have q5 : i * 5 + 2 + 1 ≤ cap * 5 := by omega
  refine W_cT [1, 4, 53] (by simp [ci]; rfl) rfl ?_
  refine yc9 ?_
  refine yk9 ?_
  refine yg9 ?_
  refine zl9 [1, 4] (by simp [h0, boxE, hid, hl7, q5, c, ci, hs]; rfl) ?_
  refine zl9 [1, 4] (by simp [wi]; rfl) ?_
  exact ⟨_, by omega, i + 1, _, rfl, by omega, by omega, ⟨id, cap, rs, hne, by rw [List.getElem?_set_ne hne]; exact h0, List.getElem?_set_self hidl, hrs, hcap, rfl⟩, by simp⟩
 rintro _ ⟨H, ⟨id, cap, rs, hne, h0, hid, hrs, hcap, hl⟩, rfl⟩
 have hidl : id < H.length := (List.getElem?_eq_some_iff.1 hid).1
 have hl7 : (flC esC (esK 7) ++ rs).length = cap * 5 := by rw [List.length_append, yd8 xd8, hrs, hl]; omega
 have hs := flC_set xd8 (l := esK 7) (k := 1) (r := ⟨[66], 2, 7, 700, 0⟩) rfl rs 2 [.v (.int .i64 6)] (r' := ⟨[66], 2, 6, 700, 0⟩) (by simp [esC, strB, yf9]) (by simp)
 rw [show (esK 7).set 1 ⟨[66], 2, 6, 700, 0⟩ = esF from rfl] at hs
 have q5 : 7 + 1 ≤ cap * 5 := by omega
 refine yt9 [1] (by simp [h0, boxE, hid, hl7, q5, h1c, hs]; rfl) ?_
 obtain ⟨o, h', hf, ho⟩ := frz_es7 (h := H.set id (.cells 78 (flC esC esF ++ rs))) (id := id) (cap := cap) (l := esF) (rs := rs) (List.getElem?_set_self hidl)
 rw [show esF.length = 7 from rfl] at hf
 have hh0 : (H.set id (.cells 78 (flC esC esF ++ rs)))[0]? = some (boxE (.arr id 0 7 cap)) := by rw [List.getElem?_set_ne hne]; exact h0
 refine W_frzP 0 0 (tk := 1) hh0 rfl (Ne.symm hne) rfl hf ?_
 have hpl : (AV.lst o 5 (esL esF)).plain = .lst .any 5 (esL esF) := by rcases ho with rfl | rfl <;> rfl
 have hh' : h'[0]? = some (boxE (.arr id 0 7 cap)) := by rw [frzArr_other hf (Ne.symm hne)]; exact hh0
 have hl' : 0 < h'.length := (List.getElem?_eq_some_iff.1 hh').1
 rw [hpl]
 have htk : (h'.set 0 (boxE (.lst .any 5 (esL esF)))).take 1 = [boxE (.lst .any 5 (esL esF))] := by
  cases h' with
  | nil => simp at hl'
  | cons a t => simp
 refine (show Wt true 0 Try.prog _ _ ⟨348, [(1, .loc 0 0)], h'.set 0 (boxE (.lst .any 5 (esL esF)))⟩ from ?_)
 refine vl9 1 (by omega) (by rw [List.length_set]; omega) rfl (by rw [htk]; simp [ys9, boxE, AObj.under, AV.underL, AV.under]) ?_
 rw [htk]
 refine W_runK (hb := fun t => t == 1000) knE_ok mx 3000 4 [1, 8] rfl (s' := ⟨348, [(1, .loc 0 0), (8, .loc 1 0)], [boxR (.lst .nil 3 []), boxR (.lst .nil 3 [])]⟩) (by kernel_rfl) ?_
 refine W_rK [1, 8] ?_
 refine yq9 2 (by simp [boxR, yf9]; rfl) rfl ?_
 refine runA_b (by simp) ⟨_, by simp [evSame, evBsO, catK, AV.cellsK, AV.kone, AV.koneL, AV.tlL, AV.tl, Value.oneCell']; rfl, ?_⟩
 refine yr9 (by simp [boxR, yf9]; rfl) ?_
 refine W_frzP 3 2 (tk := 1) rfl rfl (by decide) rfl (frzZ rfl) ?_
 refine W_frzP 1 1 (tk := 1) rfl rfl (by decide) rfl (frzT1 rfl) ?_
 refine vl9 2 (by omega) (by simp) (by simp [yn9, AV.under]) (by simp [ys9, AObj.under, AV.underL, AV.under, boxR, strB]) ?_
 refine (show Wt true 0 Try.prog _ _ ⟨348, [(1, .loc 0 0), (8, .loc 1 0)], [boxR (.lst .nil 3 []), boxR (.lst .any 3 [txA ⟨1, 0, zL 57⟩])]⟩ from ?_)
 refine W_runE (hb := fun t => t == 1000) knE_ok mx 3000 7 348 [(13, .v (.bool true))] rfl (by kernel_rfl) ?_
 intro H
 refine vl9 0 (by omega) (by omega) rfl rfl ?_
 rw [List.take_zero]
 refine W_rK [13, 14] ?_
 refine yq9 6 (by simp [yf9]; rfl) rfl ?_
 refine yr9 (by simp [yf9]; rfl) ?_
 refine W_frzP 1 0 (tk := 1) rfl rfl (by decide) rfl (frzZ rfl) ?_
 refine (show Wt true 0 Try.prog _ _ ⟨348, [(13, .v (.bool true)), (14, .loc 1 0)], [.froz 5 (byL (zL 2500)), boxL (.lst .nil 3 [])]⟩ from ?_)
 refine W_runK (hb := fun t => t == 1000) knE_ok mx 3000 7 [13, 14, 18, 19] rfl (s' := ⟨348, [(13, .v (.bool true)), (14, .loc 1 0), (18, .loc 2 0), (19, .loc 3 0)], [.froz 5 (byL (zL 2500)), boxL (.lst (.tip 85 405) 3 (rlL RK)), boxL (.lst (.tip 85 1078) 3 (rlL [⟨1998, 4, false⟩])), boxL (.lst (.tip 85 1098) 3 (rlL [⟨8, 4, false⟩, ⟨11, 1, false⟩]))]⟩) (by kernel_rfl) ?_
 have hM : LSn ⟨zL 2500, RK, SK, 0⟩ := ⟨by decide, by show (List.replicate 2500 (0 : UInt8)).length ≤ _; rw [List.length_replicate]; omega, by show ((List.range 201).map _).length ≤ _; rw [List.length_map, List.length_range]; omega, by simp [SK]⟩
 obtain ⟨Z, hZ⟩ : ∃ Z, zL 2500 = Z := ⟨_, rfl⟩
 obtain ⟨RR, hRR⟩ : ∃ Z, RK = Z := ⟨_, rfl⟩
 simp only [boxL]
 rw [hZ, hRR] at hM ⊢
 have hi1 : (1 : Int) < 2 := by omega
 refine W_dpObj 1 rfl ?_
 refine W_dpObj 2 rfl ?_
 refine W_dpObj 3 rfl ?_
 simp only [AV.dpL, AV.dp, dpL_byL, dpL_rlL, dpL_sgL]
 refine (show Wt true 0 Try.prog _ _ ⟨348, [(13, .v (.bool true)), (14, .loc 1 0), (18, .loc 2 0), (19, .loc 3 0)], [.froz 5 (byL Z), .cells 40 [.lst .any 1 (byL Z), .lst .any 3 (rlL RR), .lst .any 4 (sgL SK), .v (.int .i64 0)], .cells 40 [.lst .any 1 (byL Z), .lst .any 3 (rlL [⟨1998, 4, false⟩]), .lst .any 4 (sgL SK), .v (.int .i64 0)], .cells 40 [.lst .any 1 (byL Z), .lst .any 3 (rlL [⟨8, 4, false⟩, ⟨11, 1, false⟩]), .lst .any 4 (sgL SK), .v (.int .i64 0)]]⟩ from ?_)
 refine W_rK [13, 14, 18, 19, 20] ?_
 refine yq9 1 (by simp; rfl) rfl ?_
 refine zw9 (f := 33) (args := [lmA ⟨Z, RR, SK, 0⟩]) (by simp) (by first | (simp; done) | (simp; rfl)) (sp_thawS hM fun cap20 hc1 hc2 => ?_)
 refine ⟨_, by simp; rfl, ?_⟩
 refine yr9 (by simp [yf9]; rfl) ?_
 have hs20 : yf9 (flC segC SK ++ List.replicate ((cap20 - 2) * 4) AV.any) 5 [.v (.int .i64 1999)] = flC segC [⟨-1, 0, 0, 2000⟩, ⟨0, 1999, 2000, 500⟩] ++ List.replicate ((cap20 - 2) * 4) .any := flC_set zl7 (l := SK) (k := 1) (r := ⟨0, 2000, 2000, 500⟩) rfl _ 1 [.v (.int .i64 1999)] (r' := ⟨0, 1999, 2000, 500⟩) rfl (by decide)
 have hl20 : (flC segC SK).length = 8 := rfl
 have hq20 : 6 ≤ 8 + (cap20 - 2) * 4 := by omega
 have hn20 : SK.length = 2 := rfl
 refine yt9 [13, 14, 18, 19, 20] (by simp [hs20, hl20, hn20, hq20, hi1]; rfl) ?_
 obtain ⟨o20, ho20, hf20⟩ := frz_sg2 (cap := cap20) (k := (cap20 - 2) * 4) (l := [⟨-1, 0, 0, 2000⟩, ⟨0, 1999, 2000, 500⟩]) (id := 4) (h := [.froz 5 (byL Z), .cells 40 [.lst .any 1 (byL Z), .lst .any 3 (rlL RR), .lst .any 4 (sgL SK), .v (.int .i64 0)], .cells 40 [.lst .any 1 (byL Z), .lst .any 3 (rlL [⟨1998, 4, false⟩]), .lst .any 4 (sgL SK), .v (.int .i64 0)], .cells 40 [.lst .any 1 (byL Z), .lst .any 3 (rlL [⟨8, 4, false⟩, ⟨11, 1, false⟩]), .lst .any 4 (sgL SK), .v (.int .i64 0)], .cells 83 (flC segC [⟨-1, 0, 0, 2000⟩, ⟨0, 1999, 2000, 500⟩] ++ List.replicate ((cap20 - 2) * 4) .any), .cells 40 [.lst .any 1 (byL Z), .lst .any 3 (rlL RR), .arr 4 0 2 cap20, .v (.int .i64 0)]]) rfl
 refine W_frzP 5 2 (tk := 1) rfl rfl (by decide) rfl hf20 ?_
 have hp20 : (AV.lst o20 4 (sgL [⟨-1, 0, 0, 2000⟩, ⟨0, 1999, 2000, 500⟩])).plain = .lst .any 4 (sgL [⟨-1, 0, 0, 2000⟩, ⟨0, 1999, 2000, 500⟩]) := by rcases ho20 with rfl | rfl <;> rfl
 rw [hp20]
 refine (show Wt true 0 Try.prog _ _ ⟨348, [(13, .v (.bool true)), (14, .loc 1 0), (18, .loc 2 0), (19, .loc 3 0), (20, .loc 5 0)], [.froz 5 (byL Z), .cells 40 [.lst .any 1 (byL Z), .lst .any 3 (rlL RR), .lst .any 4 (sgL SK), .v (.int .i64 0)], .cells 40 [.lst .any 1 (byL Z), .lst .any 3 (rlL [⟨1998, 4, false⟩]), .lst .any 4 (sgL SK), .v (.int .i64 0)], .cells 40 [.lst .any 1 (byL Z), .lst .any 3 (rlL [⟨8, 4, false⟩, ⟨11, 1, false⟩]), .lst .any 4 (sgL SK), .v (.int .i64 0)], .froz 83 (flC segC [⟨-1, 0, 0, 2000⟩, ⟨0, 1999, 2000, 500⟩]), .cells 40 [.lst .any 1 (byL Z), .lst .any 3 (rlL RR), .lst .any 4 (sgL [⟨-1, 0, 0, 2000⟩, ⟨0, 1999, 2000, 500⟩]), .v (.int .i64 0)]]⟩ from ?_)
 refine W_rK [13, 14, 18, 19, 20, 21] ?_
 refine yq9 1 (by simp; rfl) rfl ?_
 refine zw9 (f := 33) (args := [lmA ⟨Z, RR, SK, 0⟩]) (by simp) (by first | (simp; done) | (simp; rfl)) (sp_thawS hM fun cap21 hc1 hc2 => ?_)
 refine ⟨_, by simp; rfl, ?_⟩
 refine yr9 (by simp [yf9]; rfl) ?_
 have hs21 : yf9 (flC segC SK ++ List.replicate ((cap21 - 2) * 4) AV.any) 5 [.v (.int .i64 65037)] = flC segC [⟨-1, 0, 0, 2000⟩, ⟨0, 65037, 2000, 500⟩] ++ List.replicate ((cap21 - 2) * 4) .any := flC_set zl7 (l := SK) (k := 1) (r := ⟨0, 2000, 2000, 500⟩) rfl _ 1 [.v (.int .i64 65037)] (r' := ⟨0, 65037, 2000, 500⟩) rfl (by decide)
 have hl21 : (flC segC SK).length = 8 := rfl
 have hq21 : 6 ≤ 8 + (cap21 - 2) * 4 := by omega
 have hn21 : SK.length = 2 := rfl
 refine yt9 [13, 14, 18, 19, 20, 21] (by simp [hs21, hl21, hn21, hq21, hi1]; rfl) ?_
 obtain ⟨o21, ho21, hf21⟩ := frz_sg2 (cap := cap21) (k := (cap21 - 2) * 4) (l := [⟨-1, 0, 0, 2000⟩, ⟨0, 65037, 2000, 500⟩]) (id := 6) (h := [.froz 5 (byL Z), .cells 40 [.lst .any 1 (byL Z), .lst .any 3 (rlL RR), .lst .any 4 (sgL SK), .v (.int .i64 0)], .cells 40 [.lst .any 1 (byL Z), .lst .any 3 (rlL [⟨1998, 4, false⟩]), .lst .any 4 (sgL SK), .v (.int .i64 0)], .cells 40 [.lst .any 1 (byL Z), .lst .any 3 (rlL [⟨8, 4, false⟩, ⟨11, 1, false⟩]), .lst .any 4 (sgL SK), .v (.int .i64 0)], .froz 83 (flC segC [⟨-1, 0, 0, 2000⟩, ⟨0, 1999, 2000, 500⟩]), .cells 40 [.lst .any 1 (byL Z), .lst .any 3 (rlL RR), .lst .any 4 (sgL [⟨-1, 0, 0, 2000⟩, ⟨0, 1999, 2000, 500⟩]), .v (.int .i64 0)], .cells 83 (flC segC [⟨-1, 0, 0, 2000⟩, ⟨0, 65037, 2000, 500⟩] ++ List.replicate ((cap21 - 2) * 4) .any), .cells 40 [.lst .any 1 (byL Z), .lst .any 3 (rlL RR), .arr 6 0 2 cap21, .v (.int .i64 0)]]) rfl
 refine W_frzP 7 2 (tk := 1) rfl rfl (by decide) rfl hf21 ?_
 have hp21 : (AV.lst o21 4 (sgL [⟨-1, 0, 0, 2000⟩, ⟨0, 65037, 2000, 500⟩])).plain = .lst .any 4 (sgL [⟨-1, 0, 0, 2000⟩, ⟨0, 65037, 2000, 500⟩]) := by rcases ho21 with rfl | rfl <;> rfl
 rw [hp21]
 refine (show Wt true 0 Try.prog _ _ ⟨348, [(13, .v (.bool true)), (14, .loc 1 0), (18, .loc 2 0), (19, .loc 3 0), (20, .loc 5 0), (21, .loc 7 0)], [.froz 5 (byL Z), .cells 40 [.lst .any 1 (byL Z), .lst .any 3 (rlL RR), .lst .any 4 (sgL SK), .v (.int .i64 0)], .cells 40 [.lst .any 1 (byL Z), .lst .any 3 (rlL [⟨1998, 4, false⟩]), .lst .any 4 (sgL SK), .v (.int .i64 0)], .cells 40 [.lst .any 1 (byL Z), .lst .any 3 (rlL [⟨8, 4, false⟩, ⟨11, 1, false⟩]), .lst .any 4 (sgL SK), .v (.int .i64 0)], .froz 83 (flC segC [⟨-1, 0, 0, 2000⟩, ⟨0, 1999, 2000, 500⟩]), .cells 40 [.lst .any 1 (byL Z), .lst .any 3 (rlL RR), .lst .any 4 (sgL [⟨-1, 0, 0, 2000⟩, ⟨0, 1999, 2000, 500⟩]), .v (.int .i64 0)], .froz 83 (flC segC [⟨-1, 0, 0, 2000⟩, ⟨0, 65037, 2000, 500⟩]), .cells 40 [.lst .any 1 (byL Z), .lst .any 3 (rlL RR), .lst .any 4 (sgL [⟨-1, 0, 0, 2000⟩, ⟨0, 65037, 2000, 500⟩]), .v (.int .i64 0)]]⟩ from ?_)
 refine W_rK [13, 14, 18, 19, 20, 21, 22] ?_
 refine yq9 1 (by simp; rfl) rfl ?_
 refine zw9 (f := 33) (args := [lmA ⟨Z, RR, SK, 0⟩]) (by simp) (by first | (simp; done) | (simp; rfl)) (sp_thawS hM fun cap22 hc1 hc2 => ?_)
 refine ⟨_, by simp; rfl, ?_⟩
 refine yr9 (by simp [yf9]; rfl) ?_
 have hs22 : yf9 (flC segC SK ++ List.replicate ((cap22 - 2) * 4) AV.any) 5 [.v (.int .i64 65036)] = flC segC [⟨-1, 0, 0, 2000⟩, ⟨0, 65036, 2000, 500⟩] ++ List.replicate ((cap22 - 2) * 4) .any := flC_set zl7 (l := SK) (k := 1) (r := ⟨0, 2000, 2000, 500⟩) rfl _ 1 [.v (.int .i64 65036)] (r' := ⟨0, 65036, 2000, 500⟩) rfl (by decide)
 have hl22 : (flC segC SK).length = 8 := rfl
 have hq22 : 6 ≤ 8 + (cap22 - 2) * 4 := by omega
 have hn22 : SK.length = 2 := rfl
 refine yt9 [13, 14, 18, 19, 20, 21, 22] (by simp [hs22, hl22, hn22, hq22, hi1]; rfl) ?_
 obtain ⟨o22, ho22, hf22⟩ := frz_sg2 (cap := cap22) (k := (cap22 - 2) * 4) (l := [⟨-1, 0, 0, 2000⟩, ⟨0, 65036, 2000, 500⟩]) (id := 8) (h := [.froz 5 (byL Z), .cells 40 [.lst .any 1 (byL Z), .lst .any 3 (rlL RR), .lst .any 4 (sgL SK), .v (.int .i64 0)], .cells 40 [.lst .any 1 (byL Z), .lst .any 3 (rlL [⟨1998, 4, false⟩]), .lst .any 4 (sgL SK), .v (.int .i64 0)], .cells 40 [.lst .any 1 (byL Z), .lst .any 3 (rlL [⟨8, 4, false⟩, ⟨11, 1, false⟩]), .lst .any 4 (sgL SK), .v (.int .i64 0)], .froz 83 (flC segC [⟨-1, 0, 0, 2000⟩, ⟨0, 1999, 2000, 500⟩]), .cells 40 [.lst .any 1 (byL Z), .lst .any 3 (rlL RR), .lst .any 4 (sgL [⟨-1, 0, 0, 2000⟩, ⟨0, 1999, 2000, 500⟩]), .v (.int .i64 0)], .froz 83 (flC segC [⟨-1, 0, 0, 2000⟩, ⟨0, 65037, 2000, 500⟩]), .cells 40 [.lst .any 1 (byL Z), .lst .any 3 (rlL RR), .lst .any 4 (sgL [⟨-1, 0, 0, 2000⟩, ⟨0, 65037, 2000, 500⟩]), .v (.int .i64 0)], .cells 83 (flC segC [⟨-1, 0, 0, 2000⟩, ⟨0, 65036, 2000, 500⟩] ++ List.replicate ((cap22 - 2) * 4) .any), .cells 40 [.lst .any 1 (byL Z), .lst .any 3 (rlL RR), .arr 8 0 2 cap22, .v (.int .i64 0)]]) rfl
 refine W_frzP 9 2 (tk := 1) rfl rfl (by decide) rfl hf22 ?_
 have hp22 : (AV.lst o22 4 (sgL [⟨-1, 0, 0, 2000⟩, ⟨0, 65036, 2000, 500⟩])).plain = .lst .any 4 (sgL [⟨-1, 0, 0, 2000⟩, ⟨0, 65036, 2000, 500⟩]) := by rcases ho22 with rfl | rfl <;> rfl
 rw [hp22]
 refine (show Wt true 0 Try.prog _ _ ⟨348, [(13, .v (.bool true)), (14, .loc 1 0), (18, .loc 2 0), (19, .loc 3 0), (20, .loc 5 0), (21, .loc 7 0), (22, .loc 9 0)], [.froz 5 (byL Z), .cells 40 [.lst .any 1 (byL Z), .lst .any 3 (rlL RR), .lst .any 4 (sgL SK), .v (.int .i64 0)], .cells 40 [.lst .any 1 (byL Z), .lst .any 3 (rlL [⟨1998, 4, false⟩]), .lst .any 4 (sgL SK), .v (.int .i64 0)], .cells 40 [.lst .any 1 (byL Z), .lst .any 3 (rlL [⟨8, 4, false⟩, ⟨11, 1, false⟩]), .lst .any 4 (sgL SK), .v (.int .i64 0)], .froz 83 (flC segC [⟨-1, 0, 0, 2000⟩, ⟨0, 1999, 2000, 500⟩]), .cells 40 [.lst .any 1 (byL Z), .lst .any 3 (rlL RR), .lst .any 4 (sgL [⟨-1, 0, 0, 2000⟩, ⟨0, 1999, 2000, 500⟩]), .v (.int .i64 0)], .froz 83 (flC segC [⟨-1, 0, 0, 2000⟩, ⟨0, 65037, 2000, 500⟩]), .cells 40 [.lst .any 1 (byL Z), .lst .any 3 (rlL RR), .lst .any 4 (sgL [⟨-1, 0, 0, 2000⟩, ⟨0, 65037, 2000, 500⟩]), .v (.int .i64 0)], .froz 83 (flC segC [⟨-1, 0, 0, 2000⟩, ⟨0, 65036, 2000, 500⟩]), .cells 40 [.lst .any 1 (byL Z), .lst .any 3 (rlL RR), .lst .any 4 (sgL [⟨-1, 0, 0, 2000⟩, ⟨0, 65036, 2000, 500⟩]), .v (.int .i64 0)]]⟩ from ?_)
 subst hZ hRR
 refine W_runR (hb := fun t => t == 1000) knW_ok mx 3000 [.tmp 0] (.bool true) (by kernel_rfl) fun s' h => ?_
 exact ⟨.inr rfl, _, _, h, rfl, rfl⟩
end Go.AM
