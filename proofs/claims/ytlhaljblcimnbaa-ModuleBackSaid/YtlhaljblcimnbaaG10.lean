/- Parts of the walk: C31RG C31LE C31VA C31RH C31RI C31SA. -/
import Derived.Test.YtlhaljblcimnbaaG9
namespace Go.AM
open Go.RowKit Go.Proofs
set_option linter.unusedSimpArgs false
set_option linter.unusedVariables false
set_option maxHeartbeats 8000000
def spM (t : List (List UInt8)) (a b : Nat) (c : UInt8) : List (List UInt8) :=
 if t = [] then [] else
  match b % 8 with
  | 0 => t.take (a % t.length) ++ t.drop (a % t.length + 1)
  | 1 => t ++ [t.getD (a % t.length) []]
  | 2 => t.set (a % t.length) ((t.getD (a % t.length) []).take (b / 8 % ((t.getD (a % t.length) []).length + 1)))
  | 3 => if a % t.length + 1 < t.length then (t.set (a % t.length) (t.getD (a % t.length + 1) [])).set (a % t.length + 1) (t.getD (a % t.length) []) else t
  | _ => if t.getD (a % t.length) [] = [] then t else t.set (a % t.length) ((t.getD (a % t.length) []).set (b / 8 % (t.getD (a % t.length) []).length) c)
theorem wu16 {n : Int} (h1 : 0 ≤ n) (h2 : n ≤ 65535) : IntKind.u16.wrap n = n := by
 simp [IntKind.wrap, IntKind.signed, IntKind.bits]; omega
theorem bbL_get31 (t : List (List UInt8)) (n : Nat) : (bbL t)[n]? = (t[n]?).map fun l => .lst .any 1 (byL l) := by simp [bbL]
theorem spoil24_sound (t : List (List UInt8)) (A B : Nat) (c : UInt8) (hA2 : A < 65536) (hB2 : B < 65536) (ht : t.length ≤ 1000000) (hs : ∀ l ∈ t, l.length ≤ 1000000) :
  Sound Try.prog 24 [.lst .any 1 (bbL t), .v (.int .u16 (A : Nat)), .v (.int .u16 (B : Nat)), .v (.int .u8 c.toNat)] (.lst (.tip 27 1) 1 (bbL (spM t A B c))) := by
 refine zb8 Try.func24 rfl (by decide +kernel) (by simp [Try.f24]) rfl rfl (rs := [.tmp 8]) rfl ?_
 rw [show Try.f24.ntmps = 123 from rfl]
 obtain ⟨i0, hi0⟩ : ∃ i0, A % t.length = i0 := ⟨_, rfl⟩
 obtain ⟨one, hone⟩ : ∃ one, t.getD i0 [] = one := ⟨_, rfl⟩
 obtain ⟨th, hth⟩ : ∃ th, (decide (4 ≤ B % 8) && decide (one ≠ [])) = th := ⟨_, rfl⟩
 refine yt9 [0, 1, 2, 3] (by simp; rfl) ?_
 refine yt9 [0, 1, 2, 3, 9] (by simp; rfl) ?_
 refine ws9 (fun σ => ∃ (x : AV) (H : List AObj), ((t = [] ∧ x = .lst .nil 1 [] ∧ H = []) ∨ (0 < t.length ∧ OutL th i0 one t x H)) ∧ σ = ⟨123, [(1, .v (.int .u16 (A : Nat))), (2, .v (.int .u16 (B : Nat))), (3, .v (.int .u8 c.toNat)), (9, x)], H⟩) ?_ ?_
 ·refine yt9 [1, 2, 3, 9, 13, 14, 15] (by simp; rfl) ?_
  refine yf9 ?_
  refine zn9 (fun k s => ∃ (i : Nat) (x : AV) (H : List AObj), k = t.length - i ∧ i ≤ t.length ∧ ((i = 0 ∧ x = .lst .nil 1 [] ∧ H = []) ∨ (0 < i ∧ OutL th i0 one (t.take i) x H)) ∧
   s = ⟨123, [(1, .v (.int .u16 (A : Nat))), (2, .v (.int .u16 (B : Nat))), (3, .v (.int .u8 c.toNat)), (9, x), (13, .lst .any 1 (bbL t)), (14, .v (.int .i64 (t.length : Nat))), (15, .v (.int .i64 (i : Nat)))], H⟩) (k := t.length) ⟨0, _, _, rfl, by omega, .inl ⟨rfl, rfl, rfl⟩, by simp⟩ ?_
  rintro k s ⟨i, x, H, rfl, hi, hx, rfl⟩
  by_cases cc : i < t.length
  rotate_left
  ·have hin : i = t.length := by omega
   refine yt9 [1, 2, 3, 9, 16] (by simp [cc]; rfl) ?_
   refine yk9 ?_
   refine yd9 rfl (fun h => by simp at h) (fun h => ?_)
   refine zt9 [1, 2, 3, 9] ?_
   refine zh9 ?_
   refine ⟨x, H, ?_, by simp⟩
   rcases hx with ⟨h0, h1, h2⟩ | ⟨h0, h1⟩
   ·exact .inl ⟨List.eq_nil_of_length_eq_zero (by omega), h1, h2⟩
   ·rw [hin, List.take_length] at h1
    exact .inr ⟨by omega, h1⟩
  have ci : (i : Int) < t.length := by omega
  obtain ⟨l, hli⟩ : ∃ l, t[i]? = some l := ⟨_, List.getElem?_eq_getElem cc⟩
  have hl2 : t[i]'cc = l := by rw [List.getElem?_eq_getElem cc] at hli; exact Option.some.inj hli
  have hls := hs l (List.mem_of_getElem? hli)
  have wi := w64 (n := (i : Int) + 1) (by omega) (by omega)
  have htl : (t.take i).length = i := by simp; omega
  have htk : t.take (i + 1) = t.take i ++ [l] := by rw [List.take_add_one, hli]; rfl
  have bi : (i + 1) * 24 ≤ 140737488355328 := by omega
  have bl : l.length ≤ 140737488355328 := by omega
  refine yt9 [1, 2, 3, 9, 13, 14, 15, 16] (by simp [cc]; rfl) ?_
  refine yk9 ?_
  refine yd9 rfl (fun h => ?_) (fun h => by simp at h)
  refine yh9 ?_
  refine yk9 ?_
  refine yf9 ?_
  refine yt9 [1, 2, 3, 9, 13, 14, 15, 11] (by simp [cc, ci, hl2]; rfl) ?_
  by_cases hti : th = true ∧ i0 = i
  ·have hol : one = l := by rw [← hone, hti.2, List.getD_eq_getElem?_getD, hli]; rfl
   have hne : l ≠ [] := by
    have := hti.1
    rw [← hth] at this
    simp only [Bool.and_eq_true, decide_eq_true_eq] at this
    rw [← hol]; exact this.2
   have hlp : 0 < l.length := List.length_pos_iff.2 hne
   refine wq9 [1, 2, 3, 9, 13, 14, 15] (W_regionG ?_)
   refine runG_A 3 _ _ ?_
   refine yq9 2 (by simp; rfl) rfl ?_
   refine yr9 (by simp; rfl) ?_
   refine runG_W rfl ?_
   refine stepW_appE (t := 27) (e := 5) (sz := 1) (by_ := 1) (s0 := 1) (fl := .tip 5 82) (m := l.length) (yc := byL l) rfl rfl rfl rfl (by simp) rfl s27 a5 z5 (by simp) (by simp [srcA]) hlp (by omega) ?_
   intro cq h2 h3
   refine ⟨_, by simp; rfl, ?_⟩
   refine runG_A 3 _ _ ?_
   have hrep : byL l ++ repC (cq - l.length) [.v (.int .u8 0)] = byL (l ++ List.replicate (cq - l.length) 0) := by
    rw [xc9]
    congr 1
    exact repC_bytes _
   have hq2 : ∀ X, (H ++ [.cells 5 (byL (l ++ List.replicate (cq - l.length) 0))] ++ X)[H.length]? = some (AObj.cells 5 (byL (l ++ List.replicate (cq - l.length) 0))) := fun X => by
    rw [List.append_assoc, List.getElem?_append_right (Nat.le_refl _)]; simp
   rw [hrep]
   rcases hx with ⟨rfl, rfl, rfl⟩ | ⟨hi1, id, cap, cs, rfl, hid, hcl, hjc, htc, hb1, hb2⟩
   ·refine runA_b (by simp) ⟨_, by simp [evSame, evBsO, catK, AV.cellsK, AV.kone, AV.koneL, AV.tlL, AV.tl]; rfl, ?_⟩
    refine runA_nilA (t := 47) (e := 27) (sz := 1) (by_ := 24) (m := 1) (s0 := 1) (x0 := []) (yc := [.arr 0 0 l.length cq]) (by simp) rfl rfl rfl rfl (by simp) (by simp [srcA]) s47 a27 z27 (by simp) (by omega) (by omega) ?_
    intro cap' h1 h2'
    have h1' : 1 ≤ cap' := h1
    refine ⟨_, by simp; rfl, ?_⟩
    refine yr9 (by simp; rfl) ?_
    refine zs9 [1, 2, 3, 9, 13, 14, 15] (by simp [show IntKind.i64.wrap 1 = 1 from rfl]; rfl) ?_
    refine ⟨_, by omega, 1, .arr 2 0 1 cap', [.cells 5 (byL (l ++ List.replicate (cq - l.length) 0)), .cells 27 [.arr 0 0 l.length cq], .cells 27 (.arr 0 0 l.length cq :: repC (cap' - 1) [.lst .nil 1 []])], rfl, by omega, .inr ⟨by omega, ?_⟩, by simp⟩
    rw [htk]
    exact OutL.push (one := one) (cs := []) (H := []) htl (fun h => by omega) (fun _ => by simp [bbL]) (id' := 2) (by simp; rfl) (by simp [zn8]; omega) (by omega) (y := .arr 0 0 l.length cq) (by simp) (by simp [AV.tlL, AV.tl, tlL_repC (z := .lst .nil 1 []) rfl]) (fun q c h => by simp at h)
     (.inr ⟨hti.1, hti.2, 0, cq, List.replicate (cq - l.length) 0, by rw [hol], by rw [hol]; simp, by rw [hol]; exact h2, by rw [hol]; simp⟩)
   ·rw [htl] at hjc hb1 hb2 ⊢
    have hlt : id < H.length := (List.getElem?_eq_some_iff.1 hid).1
    have hid2 : ∀ X, (H ++ X)[id]? = some (AObj.cells 27 cs) := fun X => by rw [List.getElem?_append_left hlt]; exact hid
    refine runA_b (by simp) ⟨_, by simp [evSame, evBsO, catK, AV.cellsK, AV.kone, AV.koneL, AV.tlL, AV.tl]; rfl, ?_⟩
    refine runA_appA (t := 47) (e := 27) (sz := 1) (by_ := 24) (id := id) (len := i) (cap := cap) (m := 1) (cs := cs) (yc := [.arr H.length 0 l.length cq]) (by simp) rfl rfl rfl rfl (by simp) (by simp [srcA]) s47 a27 z27 (by simp) (by simp [hid2]) (by omega) (by omega) ?_
    intro s1 x1 hq
    obtain ⟨id', cap', cs', h', rfl, rfl, k1, k2, k3, k4, k5, k6⟩ := app_stepL (y := .arr H.length 0 l.length cq) (by simp [hid2]) hcl hjc htc rfl hq
    refine ⟨_, by simp; rfl, ?_⟩
    refine yr9 (by simp; rfl) ?_
    refine zs9 [1, 2, 3, 9, 13, 14, 15] (by simp [wi]; rfl) ?_
    refine ⟨_, by omega, i + 1, .arr id' 0 (i + 1) cap', h', rfl, by omega, .inr ⟨by omega, ?_⟩, by simp⟩
    rw [htk]
    refine OutL.push (cs := cs) (H := H) htl hb1 hb2 k1 k2 k3 (y := .arr H.length 0 l.length cq) k4 k6 (fun q c hqc => k5 q _ ?_) ?_
    ·have hql := (List.getElem?_eq_some_iff.1 hqc).1
     simp only [List.append_assoc]
     rw [List.getElem?_append_left hql]; exact hqc
    ·exact .inr ⟨hti.1, hti.2, H.length, cq, List.replicate (cq - l.length) 0, by rw [hol], k5 _ _ (by rw [hol]; simp), by rw [hol]; exact h2, by rw [hol]; simp⟩
  ·refine W_rE [1, 2, 3, 9, 13, 14, 15] ?_
   refine yq9 5 (by simp [bl]; rfl) rfl ?_
   rcases hx with ⟨rfl, rfl, rfl⟩ | ⟨hi1, id, cap, cs, rfl, hid, hcl, hjc, htc, hb1, hb2⟩
   ·refine runA_nil (t := 47) (e := 27) (sz := 1) (by_ := 24) (s0 := 1) (x0 := []) (ys := [.lst .any 1 (byL l)]) (yc := [.lst .any 1 (byL l)]) (by simp) rfl rfl rfl rfl (by simp) (by simp; rfl) s47 a27 z27 (by simp) (by simp [catK, AV.cellsK, AV.kone, AV.koneL]) (by simp) (by simp) ?_
    intro cap' h1 h2
    have h1' : 1 ≤ cap' := h1
    refine ⟨_, by simp; rfl, ?_⟩
    refine yr9 (by simp; rfl) ?_
    refine zs9 [1, 2, 3, 9, 13, 14, 15] (by simp [show IntKind.i64.wrap 1 = 1 from rfl]; rfl) ?_
    refine ⟨_, by omega, 1, .arr 0 0 1 cap', [.cells 27 (.lst .any 1 (byL l) :: repC (cap' - 1) [.lst .nil 1 []])], rfl, by omega, .inr ⟨by omega, ?_⟩, by simp⟩
    rw [htk]
    exact OutL.push (one := one) (cs := []) (H := []) htl (fun h => by omega) (fun _ => by simp [bbL]) (id' := 0) (by simp; rfl) (by simp [zn8]; omega) (by omega) (y := .lst .any 1 (byL l)) (by simp) (by simp [AV.tlL, AV.tl, tlL_repC (z := .lst .nil 1 []) rfl]) (fun q c h => by simp at h)
     (.inl ⟨rfl, hti⟩)
   ·rw [htl] at hjc hb1 hb2 ⊢
    refine runA_app (t := 47) (e := 27) (sz := 1) (by_ := 24) (id := id) (len := i) (cap := cap) (ys := [.lst .any 1 (byL l)]) (cs := cs) (yc := [.lst .any 1 (byL l)]) (by simp) rfl rfl rfl rfl (by simp) (by simp; rfl) s47 a27 z27 (by simp) (by simp [hid, wp8 _ htc]) (by omega) (by simp [catK, AV.cellsK, AV.kone, AV.koneL]) (by simp; omega) ?_
    intro s1 x1 hq
    obtain ⟨id', cap', cs', h', rfl, rfl, k1, k2, k3, k4, k5, k6⟩ := app_stepL (y := .lst .any 1 (byL l)) (by simp [hid, wp8 _ htc]) hcl hjc htc rfl hq
    refine ⟨_, by simp; rfl, ?_⟩
    refine yr9 (by simp; rfl) ?_
    refine zs9 [1, 2, 3, 9, 13, 14, 15] (by simp [wi]; rfl) ?_
    refine ⟨_, by omega, i + 1, .arr id' 0 (i + 1) cap', h', rfl, by omega, .inr ⟨by omega, ?_⟩, by simp⟩
    rw [htk]
    exact OutL.push (cs := cs) (H := H) htl hb1 hb2 k1 k2 k3 (y := .lst .any 1 (byL l)) k4 k6 (fun q c h => k5 q _ (by simp [h])) (.inl ⟨rfl, hti⟩)
 ·rintro s ⟨x, H, hx, rfl⟩
  have hrem0 : ((A : Int)).tmod (t.length : Int) = ((A % t.length : Nat) : Int) := rfl
  rcases hx with ⟨rfl, rfl, rfl⟩ | ⟨hi1, id, cap, cs, rfl, hid, hcl, hjc, htc, hb1, hb2⟩
  ·refine yk9 ?_
   refine W_cT [1, 2, 3, 9, 28] (by simp; rfl) rfl ?_
   refine yt9 [8] (by simp; rfl) ?_
   refine zr9 ?_
   repeat (first | refine yl9 ?_ | refine yc9 ?_)
   exact ⟨.lst .nil 1 [], by simp [retQ], by rw [show spM [] A B c = [] from rfl]; exact .nil (by decide +kernel)⟩
  have hn0 : ((t.length : Int) == 0) = false := by simp; intro h; rw [h] at hi1; simp at hi1
  have hn1 : ¬ ((t.length : Int) = 0) := by omega
  have hn2 : ¬ t.length = 0 := by omega
  have hn3 : ¬ t = [] := fun h => by rw [h] at hi1; simp at hi1
  have hi0l : i0 < t.length := by rw [← hi0]; exact Nat.mod_lt _ hi1
  have hi0i : (i0 : Int) < t.length := by omega
  have hrem : ((A : Int)).tmod (t.length : Int) = (i0 : Nat) := by rw [← hi0]; rfl
  have wA : IntKind.i64.wrap (A : Int) = A := w64 (by omega) (by omega)
  have wi1 := w64 (n := (i0 : Int) + 1) (by omega) (by omega)
  have hone' : t[i0]? = some one := by rw [← hone, List.getD_eq_getElem?_getD, List.getElem?_eq_getElem hi0l]; rfl
  have hos := hs one (List.mem_of_getElem? hone')
  have hil : i0 < cs.length := by omega
  have hsp0 : spM t A B c = match B % 8 with
   | 0 => t.take i0 ++ t.drop (i0 + 1)
   | 1 => t ++ [one]
   | 2 => t.set i0 (one.take (B / 8 % (one.length + 1)))
   | 3 => if i0 + 1 < t.length then (t.set i0 (t.getD (i0 + 1) [])).set (i0 + 1) one else t
   | _ => if one = [] then t else t.set i0 (one.set (B / 8 % one.length) c) := by unfold spM; rw [if_neg hn3, hi0, hone]
  refine yk9 ?_
  refine W_cF [1, 2, 3, 9, 28] (by simp [hn0, hn2]; rfl) rfl ?_
  refine yh9 ?_
  refine yt9 [2, 3, 9, 12] (by simp [wA, hn1, hn2, hrem]; rfl) ?_
  refine yk9 ?_
  have hmod : ((B : Int)).tmod 8 = ((B % 8 : Nat) : Int) := rfl
  obtain ⟨m, hm⟩ : ∃ m, B % 8 = m := ⟨_, rfl⟩
  have hm8 : m < 8 := by omega
  rw [hm] at hmod hsp0
  refine yt9 [2, 3, 9, 12, 36] (by simp [hmod]; rfl) ?_
  refine yf9 ?_
  have hquo : ((B : Int)).tdiv 8 = ((B / 8 : Nat) : Int) := rfl
  have wq : IntKind.u16.wrap ((B / 8 : Nat) : Int) = ((B / 8 : Nat) : Int) := wu16 (by omega) (by omega)
  have wq2 : IntKind.i64.wrap ((B / 8 : Nat) : Int) = ((B / 8 : Nat) : Int) := w64 (by omega) (by omega)
  by_cases hth1 : th = true
  ·have hthd := hth1
   rw [← hth] at hthd
   simp only [Bool.and_eq_true, decide_eq_true_eq] at hthd
   obtain ⟨hB4, hone1⟩ := hthd
   rw [hm] at hB4
   obtain ⟨q, cq, z, hq, hq1, hq2, htk⟩ := hb1 ⟨hth1, hi0l⟩
   have hcg : cs[i0]? = some (.arr q 0 one.length cq) := by
    have : (cs.take t.length)[i0]? = cs[i0]? := by rw [List.getElem?_take, if_pos hi0l]
    rw [← this, htk, List.getElem?_set_self (by simpa using hi0l)]
   have hcg2 : cs[i0]'hil = .arr q 0 one.length cq := by rw [List.getElem?_eq_getElem hil] at hcg; exact Option.some.inj hcg
   have hql : q < H.length := (List.getElem?_eq_some_iff.1 hq).1
   have hiq : id ≠ q := by
    intro e
    rw [e, hq] at hid
    simp at hid
   have hol : 0 < one.length := List.length_pos_iff.2 hone1
   have hol2 : (0 : Int) < one.length := by omega
   obtain ⟨k, hk⟩ : ∃ k, B / 8 % one.length = k := ⟨_, rfl⟩
   have hkl : k < one.length := by rw [← hk]; exact Nat.mod_lt _ hol
   have hki : (k : Int) < one.length := by omega
   have hrem2 : (((B / 8 : Nat) : Int)).tmod (one.length : Int) = (k : Nat) := by rw [← hk]; rfl
   have ho1 : ¬ ((one.length : Int) = 0) := by omega
   have hkz : k < one.length + z.length := by omega
   have hkz' : k + 1 ≤ one.length + z.length := by omega
   have hks : ys9 (byL (one ++ z)) k [.v (.int .u8 c.toNat)] = byL ((one ++ z).set k c) := by
    rw [vm9 _ _ _ (by simp; omega), byL_set]
   have hBt : ((one ++ z).set k c).take one.length = one.set k c := by
    rw [List.set_append_left _ _ hkl, List.take_append_of_le_length (by simp), List.take_of_length_le (by simp)]
   have hsp : spM t A B c = t.set i0 (one.set k c) := by
    rw [hsp0]
    have : m = 4 ∨ m = 5 ∨ m = 6 ∨ m = 7 := by omega
    rcases this with rfl | rfl | rfl | rfl <;> (simp only [if_neg hone1, hk])
   rw [hsp]
   have hmm : m = 4 ∨ m = 5 ∨ m = 6 ∨ m = 7 := by omega
   rcases hmm with rfl | rfl | rfl | rfl
   ·refine W_cF [2, 3, 9, 12, 36, 58] (by simp; rfl) rfl ?_
    refine W_cF [2, 3, 9, 12, 36, 68] (by simp; rfl) rfl ?_
    refine W_cF [2, 3, 9, 12, 36, 79] (by simp; rfl) rfl ?_
    refine W_cF [2, 3, 9, 12, 99] (by simp; rfl) rfl ?_
    refine W_cT [2, 3, 9, 12, 42] (by simp [hi0i, hi0l, hid, hcg, hcg2, hil, hol, hol2]; rfl) rfl ?_
    refine vh9 [9] mx (by decide +kernel) ?_
    refine yw9 6 (by simp [hquo, wq, wq2, hi0i, hi0l, hid, hcg, hcg2, hil, -Int.natCast_ediv]; rfl) rfl ?_
    refine yw9 6 (by simp [hquo, wq, wq2, hi0i, hi0l, hid, hcg, hcg2, hil, -Int.natCast_ediv]; rfl) rfl ?_
    refine yv9 (by simp [hquo, wq, wq2, hrem2, ho1, hone1, hki, hkl, hq, hkz, hkz', -Int.natCast_ediv]; rfl) ?_
    refine W_finB (B := (one ++ z).set k c) (t := t) (i0 := i0) (id := id) (cs := cs) (cap := cap) (q := q) (cq := cq) (k := one.length) (sl := 9) rfl (by rw [List.getElem?_set_ne hiq.symm]; exact hid) (by rw [hks]; exact List.getElem?_set_self hql) hcl hi0l hcg htk (by simp) (fun H' => ?_)
    rw [hBt]
    refine yt9 [8] (by simp [putF]; rfl) ?_
    refine zr9 ?_
    repeat (first | refine yl9 ?_ | refine yc9 ?_)
    exact ⟨_, by simp [retQ]; exact ⟨rfl, by simp⟩, .norm fun T => by simp⟩
   ·refine W_cF [2, 3, 9, 12, 36, 58] (by simp; rfl) rfl ?_
    refine W_cF [2, 3, 9, 12, 36, 68] (by simp; rfl) rfl ?_
    refine W_cF [2, 3, 9, 12, 36, 79] (by simp; rfl) rfl ?_
    refine W_cF [2, 3, 9, 12, 99] (by simp; rfl) rfl ?_
    refine W_cT [2, 3, 9, 12, 42] (by simp [hi0i, hi0l, hid, hcg, hcg2, hil, hol, hol2]; rfl) rfl ?_
    refine vh9 [9] mx (by decide +kernel) ?_
    refine yw9 6 (by simp [hquo, wq, wq2, hi0i, hi0l, hid, hcg, hcg2, hil, -Int.natCast_ediv]; rfl) rfl ?_
    refine yw9 6 (by simp [hquo, wq, wq2, hi0i, hi0l, hid, hcg, hcg2, hil, -Int.natCast_ediv]; rfl) rfl ?_
    refine yv9 (by simp [hquo, wq, wq2, hrem2, ho1, hone1, hki, hkl, hq, hkz, hkz', -Int.natCast_ediv]; rfl) ?_
    refine W_finB (B := (one ++ z).set k c) (t := t) (i0 := i0) (id := id) (cs := cs) (cap := cap) (q := q) (cq := cq) (k := one.length) (sl := 9) rfl (by rw [List.getElem?_set_ne hiq.symm]; exact hid) (by rw [hks]; exact List.getElem?_set_self hql) hcl hi0l hcg htk (by simp) (fun H' => ?_)
    rw [hBt]
    refine yt9 [8] (by simp [putF]; rfl) ?_
    refine zr9 ?_
    repeat (first | refine yl9 ?_ | refine yc9 ?_)
    exact ⟨_, by simp [retQ]; exact ⟨rfl, by simp⟩, .norm fun T => by simp⟩
   ·refine W_cF [2, 3, 9, 12, 36, 58] (by simp; rfl) rfl ?_
    refine W_cF [2, 3, 9, 12, 36, 68] (by simp; rfl) rfl ?_
    refine W_cF [2, 3, 9, 12, 36, 79] (by simp; rfl) rfl ?_
    refine W_cF [2, 3, 9, 12, 99] (by simp; rfl) rfl ?_
    refine W_cT [2, 3, 9, 12, 42] (by simp [hi0i, hi0l, hid, hcg, hcg2, hil, hol, hol2]; rfl) rfl ?_
    refine vh9 [9] mx (by decide +kernel) ?_
    refine yw9 6 (by simp [hquo, wq, wq2, hi0i, hi0l, hid, hcg, hcg2, hil, -Int.natCast_ediv]; rfl) rfl ?_
    refine yw9 6 (by simp [hquo, wq, wq2, hi0i, hi0l, hid, hcg, hcg2, hil, -Int.natCast_ediv]; rfl) rfl ?_
    refine yv9 (by simp [hquo, wq, wq2, hrem2, ho1, hone1, hki, hkl, hq, hkz, hkz', -Int.natCast_ediv]; rfl) ?_
    refine W_finB (B := (one ++ z).set k c) (t := t) (i0 := i0) (id := id) (cs := cs) (cap := cap) (q := q) (cq := cq) (k := one.length) (sl := 9) rfl (by rw [List.getElem?_set_ne hiq.symm]; exact hid) (by rw [hks]; exact List.getElem?_set_self hql) hcl hi0l hcg htk (by simp) (fun H' => ?_)
    rw [hBt]
    refine yt9 [8] (by simp [putF]; rfl) ?_
    refine zr9 ?_
    repeat (first | refine yl9 ?_ | refine yc9 ?_)
    exact ⟨_, by simp [retQ]; exact ⟨rfl, by simp⟩, .norm fun T => by simp⟩
   ·refine W_cF [2, 3, 9, 12, 36, 58] (by simp; rfl) rfl ?_
    refine W_cF [2, 3, 9, 12, 36, 68] (by simp; rfl) rfl ?_
    refine W_cF [2, 3, 9, 12, 36, 79] (by simp; rfl) rfl ?_
    refine W_cF [2, 3, 9, 12, 99] (by simp; rfl) rfl ?_
    refine W_cT [2, 3, 9, 12, 42] (by simp [hi0i, hi0l, hid, hcg, hcg2, hil, hol, hol2]; rfl) rfl ?_
    refine vh9 [9] mx (by decide +kernel) ?_
    refine yw9 6 (by simp [hquo, wq, wq2, hi0i, hi0l, hid, hcg, hcg2, hil, -Int.natCast_ediv]; rfl) rfl ?_
    refine yw9 6 (by simp [hquo, wq, wq2, hi0i, hi0l, hid, hcg, hcg2, hil, -Int.natCast_ediv]; rfl) rfl ?_
    refine yv9 (by simp [hquo, wq, wq2, hrem2, ho1, hone1, hki, hkl, hq, hkz, hkz', -Int.natCast_ediv]; rfl) ?_
    refine W_finB (B := (one ++ z).set k c) (t := t) (i0 := i0) (id := id) (cs := cs) (cap := cap) (q := q) (cq := cq) (k := one.length) (sl := 9) rfl (by rw [List.getElem?_set_ne hiq.symm]; exact hid) (by rw [hks]; exact List.getElem?_set_self hql) hcl hi0l hcg htk (by simp) (fun H' => ?_)
    rw [hBt]
    refine yt9 [8] (by simp [putF]; rfl) ?_
    refine zr9 ?_
    repeat (first | refine yl9 ?_ | refine yc9 ?_)
    exact ⟨_, by simp [retQ]; exact ⟨rfl, by simp⟩, .norm fun T => by simp⟩
  ·have hthf : ¬ (th = true ∧ i0 < t.length) := fun h => hth1 h.1
   have htk := hb2 hthf
   have hcg : cs[i0]? = some (.lst .any 1 (byL one)) := by
    have : (cs.take t.length)[i0]? = cs[i0]? := by rw [List.getElem?_take, if_pos hi0l]
    rw [← this, htk, bbL_get31, hone']
    rfl
   have hcg2 : cs[i0]'hil = .lst .any 1 (byL one) := by rw [List.getElem?_eq_getElem hil] at hcg; exact Option.some.inj hcg
   have hmm : m = 0 ∨ m = 1 ∨ m = 2 ∨ m = 3 ∨ (4 ≤ m ∧ one = []) := by
    by_cases e : one = []
    ·by_cases h4 : 4 ≤ m
     ·exact .inr (.inr (.inr (.inr ⟨h4, e⟩)))
     ·omega
    ·have : ¬ 4 ≤ B % 8 := fun h => hth1 (by rw [← hth]; simp [h, e])
     omega
   rcases hmm with rfl | rfl | rfl | rfl | ⟨h4, hone1⟩
   ·rw [show spM t A B c = t.take i0 ++ t.drop (i0 + 1) by rw [hsp0]; rfl]
    refine W_cT [2, 3, 9, 12, 36, 58] (by simp; rfl) rfl ?_
    have hic1 : (i0 : Int) ≤ cap := by omega
    have hic2 : (i0 : Int) + 1 ≤ t.length := by omega
    have hic3 : ((i0 : Int) + 1).toNat = i0 + 1 := by omega
    have hicN : i0 ≤ cap := by omega
    have hicM : i0 + 1 ≤ t.length := by omega
    have hic4 : ¬ cap = 0 := by omega
    have hic5 : (0 : Int) ≤ (i0 : Int) + 1 := by omega
    refine W_rsK 7 [8] mx (by decide +kernel) ?_
    refine yw9 6 (by simp [hic1, hicN, hic4, wi1]; rfl) rfl ?_
    refine yv9 (by simp [wi1, hic2, hicM, hic3, hic5]; rfl) ?_
    refine runA_appA (t := 47) (e := 27) (sz := 1) (by_ := 24) (id := id) (len := i0) (cap := cap) (m := t.length - (i0 + 1)) (cs := cs) (yc := (cs.drop (i0 + 1)).take (t.length - (i0 + 1))) (by simp) rfl rfl rfl rfl (by simp) ?_ s47 a27 z27 (by simp) (by simp [hid]) (by omega) (by omega) ?_
    ·by_cases e : cap = i0 + 1
     ·have hz : t.length - (i0 + 1) = 0 := by omega
      simp [srcA, hid, e, hz]
     ·simp [srcA, hid, e]; omega
    intro s1 x1 hq
    rcases hq with ⟨h1, rfl, rfl⟩ | ⟨h1, _⟩
    rotate_left
    ·omega
    have hU : (t.take i0 ++ t.drop (i0 + 1)).length = i0 + (t.length - (i0 + 1)) := by simp; omega
    have hy : (cs.drop (i0 + 1)).take (t.length - (i0 + 1)) = bbL (t.drop (i0 + 1)) := by rw [← List.drop_take, htk, ← bbL_drop]
    have hy2 : cs.take i0 = bbL (t.take i0) := by
     have : (cs.take t.length).take i0 = cs.take i0 := by rw [List.take_take]; congr 1; omega
     rw [← this, htk, ← bbL_take]
    have hyl : ((cs.drop (i0 + 1)).take (t.length - (i0 + 1))).length = t.length - (i0 + 1) := by simp; omega
    refine ⟨_, by simp; rfl, ?_⟩
    refine yr9 (by simp; rfl) ?_
    refine W_fin9 (sl := 8) (id := id) (U := t.take i0 ++ t.drop (i0 + 1)) (cap := cap) (cs := ys9 cs (i0 * 1) ((cs.drop (i0 + 1)).take (t.length - (i0 + 1)))) (by rw [hU]; simp) (by simp [(List.getElem?_eq_some_iff.1 hid).1]) (by rw [xh9 _ _ _ (by rw [hyl]; omega)]; exact hcl) ?_ (fun H' => ?_)
    ·rw [hU, hy, Nat.mul_one]
     unfold ys9
     rw [hy2, ← ys8, List.take_append_of_le_length (by rw [bbL_length, hU]; omega), List.take_of_length_le (by rw [bbL_length, hU]; omega)]
    refine zr9 ?_
    repeat (first | refine yl9 ?_ | refine yc9 ?_)
    exact ⟨_, by simp [retQ]; exact ⟨rfl, by simp⟩, .norm fun T => by simp⟩
   ·rw [show spM t A B c = t ++ [one] by rw [hsp0]; rfl]
    refine W_cF [2, 3, 9, 12, 36, 58] (by simp; rfl) rfl ?_
    refine W_cT [2, 3, 9, 12, 36, 68] (by simp; rfl) rfl ?_
    have bt : (t.length + 1) * 24 ≤ 140737488355328 := by omega
    have bl : one.length ≤ 140737488355328 := by omega
    refine W_rK [8] ?_
    refine yq9 6 (by simp [hi0i, hi0l, hid, hcg, hcg2, hil, bl]; rfl) rfl ?_
    refine yq9 2 (by simp [bl]; rfl) rfl ?_
    refine runA_app (t := 47) (e := 27) (sz := 1) (by_ := 24) (id := id) (len := t.length) (cap := cap) (ys := [.lst .any 1 (byL one)]) (cs := cs) (yc := [.lst .any 1 (byL one)]) (by simp) rfl rfl rfl rfl (by simp) (by simp; rfl) s47 a27 z27 (by simp) (by simp [hid, wp8 _ htc]) (by omega) (by simp [catK, AV.cellsK, AV.kone, AV.koneL]) (by simp; omega) ?_
    intro s1 x1 hq
    obtain ⟨id', cap', cs', h', rfl, rfl, k1, k2, k3, k4, k5, k6⟩ := app_stepL (y := .lst .any 1 (byL one)) (by simp [hid, wp8 _ htc]) hcl hjc htc rfl hq
    refine ⟨_, by simp; rfl, ?_⟩
    refine yr9 (by simp; rfl) ?_
    refine W_fin9 (sl := 8) (U := t ++ [one]) (cap := cap') (cs := cs') (by simp) k1 k2 (by rw [List.length_append, List.length_singleton, k4, htk, ys8]; rfl) (fun H' => ?_)
    refine zr9 ?_
    repeat (first | refine yl9 ?_ | refine yc9 ?_)
    exact ⟨_, by simp [retQ]; exact ⟨rfl, by simp⟩, .norm fun T => by simp⟩
   ·obtain ⟨k, hk⟩ : ∃ k, B / 8 % (one.length + 1) = k := ⟨_, rfl⟩
    rw [show spM t A B c = t.set i0 (one.take k) by rw [hsp0, ← hk]; rfl]
    have hkl : k ≤ one.length := by have := Nat.mod_lt (B / 8) (show 0 < one.length + 1 by omega); omega
    have hki : (k : Int) ≤ one.length := by omega
    have wl1 := w64 (n := (one.length : Int) + 1) (by omega) (by omega)
    have hrem2 : (((B / 8 : Nat) : Int)).tmod ((one.length : Int) + 1) = (k : Nat) := by rw [← hk]; rfl
    have ho1 : ¬ ((one.length : Int) + 1 = 0) := by omega
    have hil1 : i0 + 1 ≤ cs.length := hil
    refine W_cF [2, 3, 9, 12, 36, 58] (by simp; rfl) rfl ?_
    refine W_cF [2, 3, 9, 12, 36, 68] (by simp; rfl) rfl ?_
    refine W_cT [2, 3, 9, 12, 36, 79] (by simp; rfl) rfl ?_
    refine vh9 [9] mx (by decide +kernel) ?_
    refine yw9 6 (by simp [hi0i, hi0l, hid, hcg, hcg2, hil]; rfl) rfl ?_
    refine yw9 6 (by simp [hquo, wq, wq2, hi0i, hi0l, hid, hcg, hcg2, hil, -Int.natCast_ediv]; rfl) rfl ?_
    refine yv9 (by simp [hil1, hquo, wq, wq2, wl1, hrem2, ho1, hki, hkl, hi0i, hi0l, hid, hcg, hcg2, hil, ← xw9, -Int.natCast_ediv]; rfl) ?_
    refine W_fin9 (sl := 9) (id := id) (U := t.set i0 (one.take k)) (cap := cap) (cs := cs.set i0 (.lst .any 1 (byL (one.take k)))) (by simp) (by rw [← vm9 cs i0 _ hil]; exact List.getElem?_set_self (List.getElem?_eq_some_iff.1 hid).1) (by simpa using hcl) (by rw [List.length_set, List.take_set, htk, bbL_set]) (fun H' => ?_)
    refine yt9 [8] (by simp [putF]; rfl) ?_
    refine zr9 ?_
    repeat (first | refine yl9 ?_ | refine yc9 ?_)
    exact ⟨_, by simp [retQ]; exact ⟨rfl, by simp⟩, .norm fun T => by simp⟩
   ·refine W_cF [2, 3, 9, 12, 36, 58] (by simp; rfl) rfl ?_
    refine W_cF [2, 3, 9, 12, 36, 68] (by simp; rfl) rfl ?_
    refine W_cF [2, 3, 9, 12, 36, 79] (by simp; rfl) rfl ?_
    refine W_cT [2, 3, 9, 12, 99] (by simp; rfl) rfl ?_
    by_cases e1 : i0 + 1 < t.length
    ·rw [show spM t A B c = (t.set i0 (t.getD (i0 + 1) [])).set (i0 + 1) one by rw [hsp0]; exact if_pos e1]
     have e2 : (i0 : Int) + 1 < t.length := by omega
     have e0 : (0 : Int) ≤ (i0 : Int) + 1 := by omega
     have e3 : ((i0 : Int) + 1).toNat = i0 + 1 := by omega
     obtain ⟨two, htwo⟩ : ∃ two, t[i0 + 1]? = some two := ⟨_, List.getElem?_eq_getElem e1⟩
     rw [show t.getD (i0 + 1) [] = two by rw [List.getD_eq_getElem?_getD, htwo]; rfl]
     have e4 : i0 + 1 < cs.length := by omega
     have hcg3 : cs[i0 + 1]? = some (.lst .any 1 (byL two)) := by
      have : (cs.take t.length)[i0 + 1]? = cs[i0 + 1]? := by rw [List.getElem?_take, if_pos e1]
      rw [← this, htk, bbL_get31, htwo]
      rfl
     have hcg4 : cs[i0 + 1]'e4 = .lst .any 1 (byL two) := by rw [List.getElem?_eq_getElem e4] at hcg3; exact Option.some.inj hcg3
     have hset : ∀ x, (H.set id x)[id]? = some x := fun x => List.getElem?_set_self (List.getElem?_eq_some_iff.1 hid).1
     have hil1 : i0 + 1 ≤ cs.length := hil
     have e5 : i0 + 1 + 1 ≤ cs.length := e4
     have hsl : ∀ y, (ys9 cs i0 [y]).length = cs.length := fun y => xh9 _ _ _ (by simp; omega)
     refine W_cT [9, 12, 105] (by simp [wi1, e1, e2]; rfl) rfl ?_
     refine vh9 [9] mx (by decide +kernel) ?_
     refine yw9 6 (by simp [wi1]; rfl) rfl ?_
     refine yw9 6 (by simp [wi1, e0, e1, e2, e3, hid, hcg3, hcg4, e4]; rfl) rfl ?_
     refine yv9 (by simp [wi1, e0, e1, e2, e3, e4, e5, hsl, hil1, hi0i, hi0l, hid, hset, hcg, hcg2, hil]; rfl) ?_
     refine W_fin9 (sl := 9) (id := id) (U := (t.set i0 two).set (i0 + 1) one) (cap := cap) (cs := (cs.set i0 (.lst .any 1 (byL two))).set (i0 + 1) (.lst .any 1 (byL one))) (by simp) ?_ (by simpa using hcl) ?_ (fun H' => ?_)
     ·rw [← vm9 (cs.set i0 (.lst .any 1 (byL two))) (i0 + 1) _ (by simpa using e4), ← vm9 cs i0 _ hil]
      simp [(List.getElem?_eq_some_iff.1 hid).1]
     ·rw [List.length_set, List.length_set, List.take_set, List.take_set, htk, bbL_set, bbL_set]
     refine yt9 [8] (by simp [putF]; rfl) ?_
     refine zr9 ?_
     repeat (first | refine yl9 ?_ | refine yc9 ?_)
     exact ⟨_, by simp [retQ]; exact ⟨rfl, by simp⟩, .norm fun T => by simp⟩
    ·rw [show spM t A B c = t by rw [hsp0]; exact if_neg e1]
     have e2 : ¬ ((i0 : Int) + 1 < t.length) := by omega
     refine W_cF [9, 12, 105] (by simp [wi1, e1, e2]; rfl) rfl ?_
     refine yh9 ?_
     refine W_fin9 (sl := 9) (cs := cs) (cap := cap) rfl hid hcl htk (fun H' => ?_)
     refine yt9 [8] (by simp [putF]; rfl) ?_
     refine zr9 ?_
     repeat (first | refine yl9 ?_ | refine yc9 ?_)
     exact ⟨_, by simp [retQ]; exact ⟨rfl, by simp⟩, .norm fun T => by simp⟩
   ·have hmm : m = 4 ∨ m = 5 ∨ m = 6 ∨ m = 7 := by omega
    rcases hmm with rfl | rfl | rfl | rfl
    ·rw [show spM t A B c = t by rw [hsp0]; exact if_pos hone1]
     refine W_cF [2, 3, 9, 12, 36, 58] (by simp; rfl) rfl ?_
     refine W_cF [2, 3, 9, 12, 36, 68] (by simp; rfl) rfl ?_
     refine W_cF [2, 3, 9, 12, 36, 79] (by simp; rfl) rfl ?_
     refine W_cF [2, 3, 9, 12, 99] (by simp; rfl) rfl ?_
     refine W_cF [2, 3, 9, 12, 42] (by simp [hi0i, hi0l, hid, hcg, hcg2, hil, hone1]; rfl) rfl ?_
     refine yh9 ?_
     refine W_fin9 (sl := 9) (cs := cs) (cap := cap) rfl hid hcl htk (fun H' => ?_)
     refine yt9 [8] (by simp [putF]; rfl) ?_
     refine zr9 ?_
     repeat (first | refine yl9 ?_ | refine yc9 ?_)
     exact ⟨_, by simp [retQ]; exact ⟨rfl, by simp⟩, .norm fun T => by simp⟩
    ·rw [show spM t A B c = t by rw [hsp0]; exact if_pos hone1]
     refine W_cF [2, 3, 9, 12, 36, 58] (by simp; rfl) rfl ?_
     refine W_cF [2, 3, 9, 12, 36, 68] (by simp; rfl) rfl ?_
     refine W_cF [2, 3, 9, 12, 36, 79] (by simp; rfl) rfl ?_
     refine W_cF [2, 3, 9, 12, 99] (by simp; rfl) rfl ?_
     refine W_cF [2, 3, 9, 12, 42] (by simp [hi0i, hi0l, hid, hcg, hcg2, hil, hone1]; rfl) rfl ?_
     refine yh9 ?_
     refine W_fin9 (sl := 9) (cs := cs) (cap := cap) rfl hid hcl htk (fun H' => ?_)
     refine yt9 [8] (by simp [putF]; rfl) ?_
     refine zr9 ?_
     repeat (first | refine yl9 ?_ | refine yc9 ?_)
     exact ⟨_, by simp [retQ]; exact ⟨rfl, by simp⟩, .norm fun T => by simp⟩
    ·rw [show spM t A B c = t by rw [hsp0]; exact if_pos hone1]
     refine W_cF [2, 3, 9, 12, 36, 58] (by simp; rfl) rfl ?_
     refine W_cF [2, 3, 9, 12, 36, 68] (by simp; rfl) rfl ?_
     refine W_cF [2, 3, 9, 12, 36, 79] (by simp; rfl) rfl ?_
     refine W_cF [2, 3, 9, 12, 99] (by simp; rfl) rfl ?_
     refine W_cF [2, 3, 9, 12, 42] (by simp [hi0i, hi0l, hid, hcg, hcg2, hil, hone1]; rfl) rfl ?_
     refine yh9 ?_
     refine W_fin9 (sl := 9) (cs := cs) (cap := cap) rfl hid hcl htk (fun H' => ?_)
     refine yt9 [8] (by simp [putF]; rfl) ?_
     refine zr9 ?_
     repeat (first | refine yl9 ?_ | refine yc9 ?_)
     exact ⟨_, by simp [retQ]; exact ⟨rfl, by simp⟩, .norm fun T => by simp⟩
    ·rw [show spM t A B c = t by rw [hsp0]; exact if_pos hone1]
     refine W_cF [2, 3, 9, 12, 36, 58] (by simp; rfl) rfl ?_
     refine W_cF [2, 3, 9, 12, 36, 68] (by simp; rfl) rfl ?_
     refine W_cF [2, 3, 9, 12, 36, 79] (by simp; rfl) rfl ?_
     refine W_cF [2, 3, 9, 12, 99] (by simp; rfl) rfl ?_
     refine W_cF [2, 3, 9, 12, 42] (by simp [hi0i, hi0l, hid, hcg, hcg2, hil, hone1]; rfl) rfl ?_
     refine yh9 ?_
     refine W_fin9 (sl := 9) (cs := cs) (cap := cap) rfl hid hcl htk (fun H' => ?_)
     refine yt9 [8] (by simp [putF]; rfl) ?_
     refine zr9 ?_
     repeat (first | refine yl9 ?_ | refine yc9 ?_)
     exact ⟨_, by simp [retQ]; exact ⟨rfl, by simp⟩, .norm fun T => by simp⟩
end Go.AM
namespace Go.AM
open Go.RowKit Go.Proofs
set_option linter.unusedSimpArgs false
set_option linter.unusedVariables false
set_option maxHeartbeats 8000000
structure LSn (m : LMod) : Prop where
 s : m.seg.length ≤ 1000
 t : m.text.length ≤ 1000000
 r : m.rel.length ≤ 1000000
 s0 : m.seg ≠ []
theorem segLd_ok (x : SeedM) : ∀ (f i : Nat) (s : List Seg) (t : List UInt8), s.length = i → t.length ≤ 4000 * i → (∀ g ∈ s, SI g) → i + f = 41 →
  (yk7 x f i s t).1.length ≤ 41 ∧ (yk7 x f i s t).2.length ≤ 4000 * 41 ∧ i ≤ (yk7 x f i s t).1.length
 | 0, i, s, t, h1, h2, h3, h4 => by
  rw [yk7]
  simp only
  omega
 | f + 1, i, s, t, h1, h2, h3, h4 => by
  have hb := mkSeg_bd (x := x) (tl := t.length) h3 h1
  obtain ⟨b1, b2, b3, b4, b5⟩ := hb
  rw [yk7]
  split
  ·split
   ·simp only; omega
   ·rename_i hc hn
    have hS := mkSeg_SI (x := x) h3 h1 (by omega) hn
    have := segLd_ok x f (i + 1) (s ++ [vq9 x i s t.length]) (t ++ wd8 x.data i (vq9 x i s t.length).len.toNat) (by simp [h1]) (by simp; omega) (by
     intro g hg
     simp only [List.mem_append, List.mem_singleton] at hg
     rcases hg with hg | rfl
     ·exact h3 g hg
     ·exact hS) (by omega)
    omega
  ·simp only; omega
theorem relLd_ok (rl : List Nat) (segs : List Seg) : ∀ (f i a : Nat) (acc : List Rlo), (relLd rl segs f i a acc).length ≤ acc.length + f
 | 0, i, a, acc => by simp [relLd]
 | f + 1, i, a, acc => by
  rw [relLd]
  split
  ·split
   ·omega
   ·have := relLd_ok rl segs f (i + 1) (a + (rl.getD (i % rl.length) 0) % 9 + (1 + (rl.getD (i % rl.length) 0) / 9 % 4)) (if segs.any (cov (mkRlo (rl.getD (i % rl.length) 0) a)) = true then acc ++ [mkRlo (rl.getD (i % rl.length) 0) a] else acc)
    have h2 : (if segs.any (cov (mkRlo (rl.getD (i % rl.length) 0) a)) = true then acc ++ [mkRlo (rl.getD (i % rl.length) 0) a] else acc).length ≤ acc.length + 1 := by split <;> simp
    omega
  ·omega
theorem loadM_ok (x : SeedM) : LSn (yd8 x) := by
 have h := segLd_ok x 41 0 [] [] rfl (by simp) (by simp) rfl
 have hr := relLd_ok x.rlds (yk7 x 41 0 [] []).1 1001 0 0 []
 simp only [List.length_nil] at hr
 have h0 : (yk7 x 41 0 [] []).1 ≠ [] := by
  have hb := mkSeg_bd (x := x) (i := 0) (tl := 0) (segs := []) (by simp) rfl
  obtain ⟨b1, b2, b3, b4, b5⟩ := hb
  have b6 := b5 rfl
  have hS := mkSeg_SI (x := x) (i := 0) (tl := 0) (segs := []) (by simp) rfl (by omega) (by omega)
  rw [show (41 : Nat) = 40 + 1 from rfl, yk7, if_pos (by omega), if_neg (by simp only [List.length_nil]; omega)]
  have := (segLd_ok x 40 1 ([] ++ [vq9 x 0 [] 0]) ([] ++ wd8 x.data 0 (vq9 x 0 [] 0).len.toNat) rfl (by simp; omega) (by simpa using hS) rfl).2.2
  intro he
  simp only [List.length_nil] at he
  rw [he] at this
  simp at this
 exact ⟨by simp only [yd8]; omega, by simp only [yd8]; omega, by simp only [yd8]; omega, by simpa only [yd8] using h0⟩
end Go.AM
namespace Go.AM
open Go.RowKit Go.Proofs
set_option linter.unusedSimpArgs false
set_option linter.unusedVariables false
set_option maxHeartbeats 1000000
theorem segGo_app (l : List Seg) : ∀ (a b : List Seg) (i : Nat) (fr : Int), yr8 l i (a ++ b) fr = (yr8 l i a fr).bind fun e => yr8 l (i + a.length) b e
 | [], b, i, fr => by simp [yr8]
 | s :: a, b, i, fr => by
  rw [List.cons_append, yr8, yr8]
  split
  ·rfl
  ·split
   ·rfl
   ·rw [segGo_app l a b (i + 1) (fr + s.len)]
    rw [show i + 1 + a.length = i + (s :: a).length by simp; omega]
theorem segGo_in (l : List Seg) : ∀ (r : List Seg) (i : Nat) (fr e : Int), yr8 l i r fr = some e → fr ≤ e ∧ ∀ s ∈ r, s.frm + s.len ≤ e ∧ 0 ≤ s.frm ∨ fr < 0
 | [], i, fr, e, h => by
  rw [yr8] at h
  simp only [Option.some.injEq] at h
  exact ⟨by omega, by simp⟩
 | s :: r, i, fr, e, h => by
  rw [yr8] at h
  split at h
  ·simp at h
  ·rename_i h1
   split at h
   ·simp at h
   ·obtain ⟨k1, k2⟩ := segGo_in l r (i + 1) _ e h
    obtain ⟨j1, j2, j3, j4, j5⟩ := seg1_ok (by simpa using h1)
    refine ⟨by omega, fun y hy => ?_⟩
    rcases List.mem_cons.1 hy with rfl | hy
    ·omega
    ·have := k2 y hy
     omega
theorem seg_step {x : SeedM} {i : Nat} {s : List Seg} {t : List UInt8} (hs : ∀ g ∈ s, SI g) (hl : s.length = i) (hno : ¬ 65536 < (vq9 x i s t.length).org + (vq9 x i s t.length).len)
  (h : ∀ l, yr8 (s ++ l) 0 s 0 = some (t.length : Int)) (l : List Seg) : yr8 (s ++ [vq9 x i s t.length] ++ l) 0 (s ++ [vq9 x i s t.length]) 0 = some ((t ++ wd8 x.data i (vq9 x i s t.length).len.toNat).length : Int) := by
 obtain ⟨b1, b2, b3, b4, b5⟩ := mkSeg_bd (x := x) (tl := t.length) hs hl
 have hf : (vq9 x i s t.length).frm = (t.length : Nat) := by unfold vq9; split <;> rfl
 have hd : ((t ++ wd8 x.data i (vq9 x i s t.length).len.toNat).length : Int) = t.length + (vq9 x i s t.length).len := by
  simp [wd8]
  omega
 rw [hd, segGo_app, List.append_assoc, h]
 show yr8 _ (0 + s.length) [vq9 x i s t.length] t.length = _
 rw [Nat.zero_add, hl, yr8, if_neg, if_neg, yr8]
 ·have : seg2 (s ++ ([vq9 x i s t.length] ++ l)) i (vq9 x i s t.length) = false := by
   unfold seg2
   by_cases h0 : i = 0
   ·rw [if_pos h0]
    have hp : (vq9 x i s t.length).par = -1 := by unfold vq9; rw [if_pos h0]
    have h5 := b5 h0
    simp only [hp, h5.1]
    simp
    omega
   ·rw [if_neg h0]
    have hlt : (x.esds.getD (i - 1) 0).toNat % i < s.length := by rw [hl]; exact Nat.mod_lt _ (by omega)
    have hp : (vq9 x i s t.length).par = (((x.esds.getD (i - 1) 0).toNat % i : Nat) : Int) := by unfold vq9; rw [if_neg h0]
    have ho : (vq9 x i s t.length).org = (s.getD ((x.esds.getD (i - 1) 0).toNat % i) ⟨0, 0, 0, 0⟩).org + (s.getD ((x.esds.getD (i - 1) 0).toNat % i) ⟨0, 0, 0, 0⟩).len + (((x.esds.getD (i - 1) 0).toNat % 3 * 8 : Nat) : Int) := by unfold vq9; rw [if_neg h0]
    have hpa : paS (s ++ ([vq9 x i s t.length] ++ l)) (vq9 x i s t.length).par = s.getD ((x.esds.getD (i - 1) 0).toNat % i) ⟨0, 0, 0, 0⟩ := by
     rw [paS, hp, Int.toNat_natCast, List.getElem?_append_left hlt]
     simp only [List.getD_eq_getElem?_getD]
    rw [hpa, ho, hp]
    simp only [Bool.or_eq_false_iff, decide_eq_false_iff_not]
    rw [hl] at hlt
    exact ⟨by omega, by omega, by omega⟩
  rw [this]; simp
 ·have : seg1 (t.length : Int) (vq9 x i s t.length) = false := by
   unfold seg1
   simp only [Bool.or_eq_false_iff, decide_eq_false_iff_not, Bool.not_eq_false', decide_eq_true_eq]
   exact ⟨by omega, by omega, by omega, by omega, hf⟩
  rw [this]; simp
theorem segLd_valid (x : SeedM) : ∀ (f i : Nat) (s : List Seg) (t : List UInt8), s.length = i → t.length ≤ 4000 * i → i + f = 41 → (∀ g ∈ s, SI g) → (∀ l, yr8 (s ++ l) 0 s 0 = some (t.length : Int)) →
  yr8 (yk7 x f i s t).1 0 (yk7 x f i s t).1 0 = some ((yk7 x f i s t).2.length : Int)
 | 0, i, s, t, h1, h2, h3, h4, h5 => by
  rw [yk7]
  simpa using h5 []
 | f + 1, i, s, t, h1, h2, h3, h4, h5 => by
  rw [yk7]
  split
  ·split
   ·simpa using h5 []
   ·rename_i hc hn
    have hb := mkSeg_bd (x := x) (tl := t.length) h4 h1
    obtain ⟨b1, b2, b3, b4, b5⟩ := hb
    have hS := mkSeg_SI (x := x) h4 h1 (by omega) hn
    refine segLd_valid x f (i + 1) _ _ (by simp [h1]) (by simp [wd8]; omega) (by omega) ?_ (fun l => seg_step h4 h1 hn h5 l)
    intro g hg
    simp only [List.mem_append, List.mem_singleton] at hg
    rcases hg with hg | rfl
    ·exact h4 g hg
    ·exact hS
  ·simpa using h5 []
def relEnd : Int → List Rlo → Int
 | p, [] => p
 | _, r :: l => relEnd (r.at_ + r.len) l
theorem relEnd_app (r : Rlo) : ∀ (l : List Rlo) (p : Int), relEnd p (l ++ [r]) = r.at_ + r.len
 | [], p => rfl
 | _ :: l, p => relEnd_app r l _
theorem relGo_app (m : LMod) (r : Rlo) : ∀ (l : List Rlo) (p : Int), relGo m l p = true → rl1 m (relEnd p l) r = false → m.seg.any (cov r) = true → relGo m (l ++ [r]) p = true
 | [], p, h, h1, h2 => by
  rw [relEnd] at h1
  rw [List.nil_append, relGo, h1, if_neg (by simp), if_neg (by simp [h2]), relGo]
 | q :: l, p, h, h1, h2 => by
  rw [relGo] at h
  rw [List.cons_append, relGo]
  split at h
  ·simp at h
  ·split at h
   ·simp at h
   ·rename_i k1 k2
    rw [if_neg k1, if_neg k2]
    exact relGo_app m r l _ h h1 h2
theorem relLd_valid (m : LMod) (hseg : ∀ s ∈ m.seg, s.frm + s.len ≤ m.text.length) (rl : List Nat) : ∀ (f i a : Nat) (acc : List Rlo), relGo m acc 0 = true → relEnd 0 acc ≤ (a : Int) → relGo m (relLd rl m.seg f i a acc) 0 = true
 | 0, i, a, acc, h1, h2 => by rw [relLd]; exact h1
 | f + 1, i, a, acc, h1, h2 => by
  rw [relLd]
  split
  ·split
   ·exact h1
   ·obtain ⟨n, hn⟩ : ∃ n, rl.getD (i % rl.length) 0 = n := ⟨_, rfl⟩
    rw [hn]
    have m1 : n % 9 < 9 := Nat.mod_lt _ (by omega)
    have m2 : n / 9 % 4 < 4 := Nat.mod_lt _ (by omega)
    split
    ·rename_i hc
     refine relLd_valid m hseg rl f (i + 1) _ _ (relGo_app m _ acc 0 h1 ?_ hc) ?_
     ·obtain ⟨s, hs, hcv⟩ := List.any_eq_true.1 hc
      have := hseg s hs
      simp only [cov, Bool.and_eq_true, decide_eq_true_eq] at hcv
      simp only [mkRlo] at hcv
      simp only [rl1, Bool.or_eq_false_iff, decide_eq_false_iff_not]
      simp only [mkRlo]
      omega
     ·rw [relEnd_app]
      simp only [mkRlo]
      omega
    ·refine relLd_valid m hseg rl f (i + 1) _ _ h1 ?_
     omega
  ·exact h1
theorem seg_first {S : List Seg} {e : Int} (h0 : S ≠ []) (h : yr8 S 0 S 0 = some e) : 1 ≤ (S.getD 0 ⟨0, 0, 0, 0⟩).len := by
 cases S with
 | nil => exact absurd rfl h0
 | cons s0 r =>
  rw [yr8] at h
  split at h
  ·simp at h
  ·split at h
   ·simp at h
   ·rename_i h1 h2
    simp only [seg2, if_true, Bool.or_eq_true, not_or, decide_eq_true_eq] at h2
    simp only [List.getD_cons_zero]
    omega
theorem loadM_valid (x : SeedM) : ckM (yd8 x) = true := by
 have h := segLd_valid x 41 0 [] [] rfl (by simp) rfl (by simp) (fun l => rfl)
 have hok := loadM_ok x
 have ho := segLd_ok x 41 0 [] [] rfl (by simp) (by simp) rfl
 have hr := relLd_ok x.rlds (yk7 x 41 0 [] []).1 1001 0 0 []
 obtain ⟨⟨S, T⟩, hp⟩ : ∃ p, yk7 x 41 0 [] [] = p := ⟨_, rfl⟩
 have hm : yd8 x = ⟨T, relLd x.rlds S 1001 0 0 [], S, ((x.entry.toNat % (S.getD 0 ⟨0, 0, 0, 0⟩).len.toNat : Nat) : Int)⟩ := by simp only [yd8, hp]
 have hS0 := hok.s0
 rw [hm] at hS0
 simp only at hS0
 rw [hp] at h ho hr
 simp only [List.length_nil] at h ho hr
 rw [hm]
 obtain ⟨M, hM⟩ : ∃ M : LMod, (⟨T, relLd x.rlds S 1001 0 0 [], S, ((x.entry.toNat % (S.getD 0 ⟨0, 0, 0, 0⟩).len.toNat : Nat) : Int)⟩ : LMod) = M := ⟨_, rfl⟩
 have hMs : M.seg = S := by rw [← hM]
 have hMt : M.text = T := by rw [← hM]
 have hMr : M.rel = relLd x.rlds M.seg 1001 0 0 [] := by rw [← hM]
 have hMe : M.entry = ((x.entry.toNat % (S.getD 0 ⟨0, 0, 0, 0⟩).len.toNat : Nat) : Int) := by rw [← hM]
 rw [hM]
 have hin : ∀ s ∈ M.seg, s.frm + s.len ≤ M.text.length := by
  rw [hMs, hMt]
  intro s hs
  have := (segGo_in S S 0 0 _ h).2 s hs
  omega
 have hlen : 1 ≤ (S.getD 0 ⟨0, 0, 0, 0⟩).len := seg_first hS0 h
 have hmod : x.entry.toNat % (S.getD 0 ⟨0, 0, 0, 0⟩).len.toNat < (S.getD 0 ⟨0, 0, 0, 0⟩).len.toNat := Nat.mod_lt _ (by omega)
 have hsegM : segM M = true := by
  unfold segM
  rw [hMs, h]
  simp only [segF, hMs, hMt, Bool.and_eq_true, decide_eq_true_eq]
  have : 1 ≤ S.length := List.length_pos_iff.2 hS0
  exact ⟨this, by omega, trivial⟩
 have hpa : (paS M.seg 0).len = (S.getD 0 ⟨0, 0, 0, 0⟩).len := by
  rw [hMs, paS, List.getD_eq_getElem?_getD]; rfl
 have hck : ckB M = false := by
  unfold ckB
  rw [hsegM, hpa, hMe]
  simp only [Bool.not_true, Bool.false_or, Bool.or_eq_false_iff, decide_eq_false_iff_not]
  refine ⟨?_, by omega, by omega⟩
  rw [hMr, hMs]
  omega
 unfold ckM
 rw [hck, hMr]
 simp only [Bool.not_false, Bool.true_and]
 exact relLd_valid M hin x.rlds 1001 0 0 [] rfl (by simp [relEnd])
end Go.AM
namespace Go.AM
open Go.RowKit Go.Proofs
set_option linter.unusedSimpArgs false
set_option linter.unusedVariables false
set_option maxHeartbeats 1000000
theorem sumL_app (L M : List (List UInt8)) : sumL (L ++ M) = sumL L + sumL M := by simp only [sumL, List.map_append, List.sum_append]
theorem vg9 (l : List UInt8) (M : List (List UInt8)) : sumL (l :: M) = l.length + sumL M := by simp [sumL]
theorem sumL_nil : sumL [] = 0 := rfl
theorem sumL_drop : ∀ (L : List (List UInt8)) (i : Nat), sumL (L.drop i) ≤ sumL L
 | [], i => by simp
 | l :: L, 0 => by simp
 | l :: L, i + 1 => by
  rw [List.drop_succ_cons, vg9]
  have := sumL_drop L i
  omega
theorem sumL_set : ∀ (L : List (List UInt8)) (i : Nat) (y : List UInt8), sumL (L.set i y) ≤ sumL L + y.length
 | [], i, y => by simp [sumL]
 | l :: L, 0, y => by
  rw [List.set_cons_zero, vg9, vg9]
  omega
 | l :: L, i + 1, y => by
  rw [List.set_cons_succ, vg9, vg9]
  have := sumL_set L i y
  omega
theorem getD_len {t : List (List UInt8)} {M : Nat} (h : ∀ l ∈ t, l.length ≤ M) (i : Nat) : (t.getD i []).length ≤ M := by
 rw [List.getD_eq_getElem?_getD]
 cases e : t[i]? with
 | none => simp
 | some l => exact h l (List.mem_of_getElem? e)
theorem spM_sum {t : List (List UInt8)} {M : Nat} (h : ∀ l ∈ t, l.length ≤ M) (a b : Nat) (c : UInt8) : sumL (spM t a b c) ≤ sumL t + 2 * M := by
 unfold spM
 split
 ·simp [sumL]
 have hg := getD_len h (a % t.length)
 split
 ·rw [sumL_app]
  have h1 : sumL t = sumL (t.take (a % t.length)) + sumL (t.drop (a % t.length)) := by rw [← sumL_app, List.take_append_drop]
  have h2 : sumL (t.drop (a % t.length + 1)) ≤ sumL (t.drop (a % t.length)) := by rw [← List.drop_drop]; exact sumL_drop _ 1
  omega
 ·rw [sumL_app, vg9, sumL_nil]; omega
 ·have := sumL_set t (a % t.length) ((t.getD (a % t.length) []).take (b / 8 % ((t.getD (a % t.length) []).length + 1)))
  rw [List.length_take] at this
  omega
 ·split
  ·have h1 := sumL_set (t.set (a % t.length) (t.getD (a % t.length + 1) [])) (a % t.length + 1) (t.getD (a % t.length) [])
   have h2 := sumL_set t (a % t.length) (t.getD (a % t.length + 1) [])
   have h3 := getD_len h (a % t.length + 1)
   omega
  ·omega
 ·split
  ·omega
  ·have := sumL_set t (a % t.length) ((t.getD (a % t.length) []).set (b / 8 % (t.getD (a % t.length) []).length) c)
   rw [List.length_set] at this
   omega
theorem spM_len (t : List (List UInt8)) (a b : Nat) (c : UInt8) : (spM t a b c).length ≤ t.length + 1 := by
 unfold spM
 split
 ·simp
 split
 ·simp; omega
 ·simp
 ·simp
 ·split <;> simp
 ·split <;> simp
theorem txtGo_sum (t : List UInt8) : ∀ f i, sumL (txtGo t f i) ≤ 6 * (t.length - i) ∧ ∀ l ∈ txtGo t f i, l.length ≤ 1005
 | 0, i => by simp [txtGo, sumL]
 | f + 1, i => by
  rw [txtGo]
  split
  ·obtain ⟨h1, h2⟩ := txtGo_sum t f (i + 1000)
   have hl : (2 :: (numM 4 i ++ (t.drop i).take 1000)).length = 5 + min 1000 (t.length - i) := by simp; omega
   refine ⟨by rw [vg9, hl]; omega, fun l hm => ?_⟩
   rcases List.mem_cons.1 hm with rfl | hm
   ·omega
   ·exact h2 l hm
  ·simp [sumL]
theorem rloGo_sum (t : List Rlo) : ∀ f i, sumL (rloGo t f i) ≤ 6 * (t.length - i) ∧ ∀ l ∈ rloGo t f i, l.length ≤ 1005
 | 0, i => by simp [rloGo, sumL]
 | f + 1, i => by
  rw [rloGo]
  split
  ·obtain ⟨h1, h2⟩ := rloGo_sum t f (i + 200)
   have hl : (rlR ((t.drop i).take 200)).length = 1 + 5 * min 200 (t.length - i) := by rw [rlR_len]; simp
   refine ⟨by rw [vg9, hl]; omega, fun l hm => ?_⟩
   rcases List.mem_cons.1 hm with rfl | hm
   ·omega
   ·exact h2 l hm
  ·simp [sumL]
theorem encL_sum (m : LMod) : sumL (encL m) ≤ 6 * m.text.length + 6 * m.rel.length + 14 * m.seg.length + 16 ∧ ∀ l ∈ encL m, l.length ≤ 1005 + 14 * m.seg.length := by
 obtain ⟨h1, h2⟩ := txtGo_sum m.text m.text.length 0
 obtain ⟨h3, h4⟩ := rloGo_sum m.rel m.rel.length 0
 have h5 : (zh7 m ++ m.seg.flatMap segR).length = 7 + 14 * m.seg.length := by rw [List.length_append, segR_len]; simp [zh7]
 have h6 : (endR m).length = 9 := by simp [endR]
 refine ⟨?_, fun l hl => ?_⟩
 ·rw [encL, sumL_app, sumL_app, sumL_app, vg9, vg9, h5, h6, sumL_nil]
  omega
 ·rw [encL] at hl
  simp only [List.mem_append, List.mem_singleton] at hl
  rcases hl with rfl | hl | hl | rfl
  ·omega
  ·have := h2 l hl; omega
  ·have := h4 l hl; omega
  ·omega
theorem loadM_fine (x : SeedM) : (yd8 x).seg.length ≤ 41 ∧ (yd8 x).text.length ≤ 164000 ∧ (yd8 x).rel.length ≤ 1001 := by
 have h := segLd_ok x 41 0 [] [] rfl (by simp) (by simp) rfl
 have hr := relLd_ok x.rlds (yk7 x 41 0 [] []).1 1001 0 0 []
 simp only [List.length_nil] at hr
 simp only [yd8]
 omega
theorem told_ok (x : SeedM) : sumL (encL (yd8 x)) ≤ 995000 ∧ (encL (yd8 x)).length ≤ 200000 ∧ ∀ l ∈ encL (yd8 x), l.length ≤ 2000 := by
 obtain ⟨h1, h2, h3⟩ := loadM_fine x
 obtain ⟨h4, h5⟩ := encL_sum (yd8 x)
 have h6 := encL_len (yd8 x)
 exact ⟨by omega, by omega, fun l hl => by have := h5 l hl; omega⟩
theorem cutLs_ok (L : List (List UInt8)) (n k : Nat) : sumL (xr8 L n k) ≤ n * k ∧ (xr8 L n k).length ≤ n ∧ ∀ l ∈ xr8 L n k, l.length ≤ k := by
 have h2 : ∀ l ∈ xr8 L n k, l.length ≤ k := by
  intro l hl
  simp only [xr8, List.mem_map] at hl
  obtain ⟨y, _, rfl⟩ := hl
  simp; omega
 have h1 : (xr8 L n k).length ≤ n := by simp [xr8]; omega
 refine ⟨?_, h1, h2⟩
 have : ∀ (M : List (List UInt8)) , (∀ l ∈ M, l.length ≤ k) → sumL M ≤ M.length * k := by
  intro M
  induction M with
  | nil => simp [sumL]
  | cons l M ih =>
   intro h
   have := ih fun y hy => h y (by simp [hy])
   have := h l (by simp)
   rw [vg9, List.length_cons, Nat.add_mul]
   omega
 exact Nat.le_trans (this _ h2) (Nat.mul_le_mul_right _ h1)
end Go.AM
namespace Go.AM
open Go.RowKit Go.Proofs
set_option linter.unusedSimpArgs false
set_option linter.unusedVariables false
set_option maxHeartbeats 1000000
section
variable {P : Program}
theorem ty_bbs (T : TF P) (u47 : P.underlying 47 = some (.slice 27)) (c27 : P.cellsOf 27 = 1) (b27 : P.bytesOf 27 = 24) {n : Nat} {x : AV} (h : TyV P (n + 3) 47 x) : ∃ L : List (List UInt8), x.dp = .lst .any 1 (bbL L) ∧ L.length ≤ 9223372036854775000 ∧ ∀ l ∈ L, l.length ≤ 9223372036854775000 := by
 obtain ⟨o, l, rfl, _, hl, hy⟩ := ty_slice (n := n + 2) u47 h
 obtain ⟨bs, h1, h2, h3⟩ := dpL_choose (F := fun b : List UInt8 => AV.lst .any 1 (byL b)) (Q := fun b => b.length ≤ 9223372036854775000) (l := l) fun y hm => by
  obtain ⟨o, t, rfl, _, k0⟩ := ty_bytes T.u27 T.u5 T.c5 (hy y hm)
  rw [T.b5] at k0
  have e : AV.dpL (t.map fun b : UInt8 => AV.v (.int .u8 b.toNat)) = byL t := dpL_byL t
  exact ⟨t, by simp only [AV.dp, e], by omega⟩
 exact ⟨bs, by simp only [AV.dp, h1, c27]; rfl, by rw [b27] at hl; omega, h3⟩
theorem tyAll5 {n : Nat} {a b c d e : TypeId} {xs : List AV} (h : TyAll P n [a, b, c, d, e] xs) : ∃ x y z w v, xs = [x, y, z, w, v] ∧ TyV P n a x ∧ TyV P n b y ∧ TyV P n c z ∧ TyV P n d w ∧ TyV P n e v := by
 match xs with
 | [] => exact h.elim
 | [_] => exact h.2.elim
 | [_, _] => exact h.2.2.elim
 | [_, _, _] => exact h.2.2.2.elim
 | [_, _, _, _] => exact h.2.2.2.2.elim
 | _ :: _ :: _ :: _ :: _ :: _ :: _ => exact h.2.2.2.2.2.elim
 | [x, y, z, w, v] => exact ⟨x, y, z, w, v, rfl, h.1, h.2.1, h.2.2.1, h.2.2.2.1, h.2.2.2.2.1⟩
end
end Go.AM
namespace Go.AM
open Go.RowKit Go.Proofs
set_option linter.unusedSimpArgs false
set_option linter.unusedVariables false
set_option maxHeartbeats 8000000
theorem alike_sound (m : LMod) (hm : LSm m) : Sound Try.prog 29 [lmA m, lmA m] (.v (.bool true)) := by
 obtain ⟨z1, z2, z3⟩ := hm
 refine zl9 Try.func29 rfl (by decide +kernel) (by simp [Try.f29]) (by simp [AV.rfL, AV.rf]) (by simp [AV.tlL, AV.tl]) (rs := [.tmp 4]) rfl ?_
 rw [show Try.f29.ntmps = 75 from rfl]
 refine yt9 [2, 3] (by simp; rfl) ?_
 refine (show Wt true 0 Try.prog _ _ ⟨75, [(2, .loc 0 0), (3, .loc 1 0)], [.cells 40 (lmC m), .cells 40 (lmC m)]⟩ from ?_)
 refine yk9 ?_
 refine W_rK [2, 3, 38] ?_
 refine yq9 6 (by simp [lmC]; rfl) rfl ?_
 refine yq9 6 (by simp [lmC]; rfl) rfl ?_
 refine yq9 6 (by simp [lmC]; rfl) rfl ?_
 refine yq9 6 (by simp [lmC]; rfl) rfl ?_
 refine yr9 (by simp [lmC]; rfl) ?_
 refine yd9 rfl (fun h => by simp at h) (fun h => ?_)
 refine yh9 ?_
 refine ws9 (fun σ => σ = ⟨75, [(2, .loc 0 0), (3, .loc 1 0)], [.cells 40 (lmC m), .cells 40 (lmC m)]⟩) ?_ ?_
 ·refine yt9 [2, 3, 41, 42] (by simp [lmC]; rfl) ?_
  refine yf9 ?_
  refine zn9 (fun k s => ∃ i : Nat, k = m.rel.length - i ∧ i ≤ m.rel.length ∧ s = ⟨75, [(2, .loc 0 0), (3, .loc 1 0), (41, .v (.int .i64 (m.rel.length : Nat))), (42, .v (.int .i64 (i : Nat)))], [.cells 40 (lmC m), .cells 40 (lmC m)]⟩) (k := m.rel.length) ⟨0, rfl, by omega, by simp [lmC]⟩ ?_
  rintro k s ⟨i, rfl, hi, rfl⟩
  by_cases c : i < m.rel.length
  rotate_left
  ·have ci : ¬ (i : Int) < m.rel.length := by omega
   refine yt9 [2, 3, 43] (by simp [lmC, c, ci]; rfl) ?_
   refine yk9 ?_
   refine yd9 rfl (fun h => by simp at h) (fun h => ?_)
   refine zt9 [2, 3] ?_
   refine zh9 ?_
   simp [yp9, inBlk, lmC]
  have ci : (i : Int) < m.rel.length := by omega
  obtain ⟨x, hs⟩ : ∃ x, m.rel[i]? = some x := ⟨_, List.getElem?_eq_getElem c⟩
  have hx2 : m.rel[i]'c = x := by rw [List.getElem?_eq_getElem c] at hs; exact Option.some.inj hs
  have wi := w64 (n := (i : Int) + 1) (by omega) (by omega)
  refine yt9 [2, 3, 41, 42, 43] (by simp [lmC, c, ci]; rfl) ?_
  refine yk9 ?_
  refine yd9 rfl (fun h => ?_) (fun h => by simp at h)
  refine yh9 ?_
  refine yk9 ?_
  refine yf9 ?_
  refine yt9 [2, 3, 41, 42, 5] (by simp; rfl) ?_
  refine xg9 (fun σ => σ = ⟨75, [(2, .loc 0 0), (3, .loc 1 0), (41, .v (.int .i64 (m.rel.length : Nat))), (42, .v (.int .i64 (i : Nat))), (55, .v (.bool false))], [.cells 40 (lmC m), .cells 40 (lmC m)]⟩) ?_ ?_
  ·refine wq9 [2, 3, 41, 42, 55] (W_drawP 10 mx (by decide +kernel) ?_)
   refine yw9 5 (by simp [lmC, c, ci, hx2]; rfl) rfl ?_
   refine yv9 (by simp [lmC, c, ci, hx2]; rfl) ?_
   refine zn7 [10] (by decide +kernel) (by simp) ?_
   intro j hj
   simp only [List.mem_cons, List.not_mem_nil, or_false] at hj
   subst hj
   refine ⟨_, rfl, ?_⟩
   refine .inr ⟨rfl, ?_⟩
   refine yw7 (t := 85) (k1 := 49) (k2 := 54) (us := rloV x) (vs := rloV x) (fs := fs85) rfl (by simp [rloV]) (by simp [rloV]) (by kernel_rfl) (by kernel_rfl) (by kernel_rfl) rfl (rlo_ok x) ?_
   rw [rlo_eq]
   refine ⟨_, by simp; rfl, ?_⟩
   refine yk8 (by decide +kernel) ?_
   simp [yp9, zh8, lmC]
  rintro _ rfl
  refine yd9 (t := false) (by simp) (fun h => by simp at h) (fun h => ?_)
  refine yh9 ?_
  refine zs9 [2, 3, 41, 42] (by simp [wi]; rfl) ?_
  exact ⟨_, by omega, i + 1, rfl, by omega, by simp⟩
 rintro _ rfl
 refine ws9 (fun σ => σ = ⟨75, [], [.cells 40 (lmC m), .cells 40 (lmC m)]⟩) ?_ ?_
 ·refine yt9 [2, 3, 59, 60] (by simp [lmC]; rfl) ?_
  refine yf9 ?_
  refine zn9 (fun k s => ∃ i : Nat, k = m.seg.length - i ∧ i ≤ m.seg.length ∧ s = ⟨75, [(2, .loc 0 0), (3, .loc 1 0), (59, .v (.int .i64 (m.seg.length : Nat))), (60, .v (.int .i64 (i : Nat)))], [.cells 40 (lmC m), .cells 40 (lmC m)]⟩) (k := m.seg.length) ⟨0, rfl, by omega, by simp [lmC]⟩ ?_
  rintro k s ⟨i, rfl, hi, rfl⟩
  by_cases c : i < m.seg.length
  rotate_left
  ·have ci : ¬ (i : Int) < m.seg.length := by omega
   refine yt9 [2, 3, 61] (by simp [lmC, c, ci]; rfl) ?_
   refine yk9 ?_
   refine yd9 rfl (fun h => by simp at h) (fun h => ?_)
   refine zt9 [] ?_
   refine zh9 ?_
   simp [yp9, inBlk, lmC]
  have ci : (i : Int) < m.seg.length := by omega
  obtain ⟨x, hs⟩ : ∃ x, m.seg[i]? = some x := ⟨_, List.getElem?_eq_getElem c⟩
  have hx2 : m.seg[i]'c = x := by rw [List.getElem?_eq_getElem c] at hs; exact Option.some.inj hs
  have wi := w64 (n := (i : Int) + 1) (by omega) (by omega)
  refine yt9 [2, 3, 59, 60, 61] (by simp [lmC, c, ci]; rfl) ?_
  refine yk9 ?_
  refine yd9 rfl (fun h => ?_) (fun h => by simp at h)
  refine yh9 ?_
  refine yk9 ?_
  refine yf9 ?_
  refine yt9 [2, 3, 59, 60, 6] (by simp; rfl) ?_
  refine xg9 (fun σ => σ = ⟨75, [(2, .loc 0 0), (3, .loc 1 0), (59, .v (.int .i64 (m.seg.length : Nat))), (60, .v (.int .i64 (i : Nat))), (73, .v (.bool false))], [.cells 40 (lmC m), .cells 40 (lmC m)]⟩) ?_ ?_
  ·refine wq9 [2, 3, 59, 60, 73] (W_drawP 10 mx (by decide +kernel) ?_)
   refine yw9 5 (by simp [lmC, c, ci, hx2]; rfl) rfl ?_
   refine yv9 (by simp [lmC, c, ci, hx2]; rfl) ?_
   refine zn7 [10] (by decide +kernel) (by simp) ?_
   intro j hj
   simp only [List.mem_cons, List.not_mem_nil, or_false] at hj
   subst hj
   refine ⟨_, rfl, ?_⟩
   refine .inr ⟨rfl, ?_⟩
   refine yw7 (t := 83) (k1 := 67) (k2 := 72) (us := segV x) (vs := segV x) (fs := fs83) rfl (by simp [segV]) (by simp [segV]) (by kernel_rfl) (by kernel_rfl) (by kernel_rfl) rfl (seg_ok x) ?_
   rw [seg_eq]
   refine ⟨_, by simp; rfl, ?_⟩
   refine yk8 (by decide +kernel) ?_
   simp [yp9, zh8, lmC]
  rintro _ rfl
  refine yd9 (t := false) (by simp) (fun h => by simp at h) (fun h => ?_)
  refine yh9 ?_
  refine zs9 [2, 3, 59, 60] (by simp [wi]; rfl) ?_
  exact ⟨_, by omega, i + 1, rfl, by omega, by simp⟩
 rintro _ rfl
 refine yt9 [4] (by simp; rfl) ?_
 refine zr9 ?_
 repeat (first | refine yl9 ?_ | refine yc9 ?_)
 simp [retQ]
theorem same30_sound (a b : List (List UInt8)) (hl : a.length ≤ 100000000) : Sound Try.prog 30 [.lst .any 1 (bbL a), .lst .any 1 (bbL b)] (.v (.bool (decide (a = b)))) := by
 refine zl9 Try.func30 rfl (by decide +kernel) (by simp [Try.f30]) rfl rfl (rs := [.tmp 4]) rfl ?_
 rw [show Try.f30.ntmps = 28 from rfl]
 refine yt9 [0, 1] (by simp; rfl) ?_
 refine yk9 ?_
 by_cases c : a.length = b.length
 rotate_left
 ·have hne : ¬ a = b := fun e => c (by rw [e])
  refine W_cT [0, 1, 10] (by simp [ne_nat, c]; rfl) rfl ?_
  refine yt9 [4] (by simp; rfl) ?_
  refine zr9 ?_
  repeat (first | refine yl9 ?_ | refine yc9 ?_)
  simp [retQ, hne]
 refine W_cF [0, 1, 10] (by simp [c]; rfl) rfl ?_
 refine yh9 ?_
 refine yk9 ?_
 refine yt9 [0, 1, 12, 13] (by simp; rfl) ?_
 refine yf9 ?_
 refine zn9 (fun k s => ∃ i : Nat, k = a.length - i ∧ i ≤ a.length ∧ a.take i = b.take i ∧ s = ⟨28, [(0, .lst .any 1 (bbL a)), (1, .lst .any 1 (bbL b)), (12, .v (.int .i64 (a.length : Nat))), (13, .v (.int .i64 (i : Nat)))], []⟩) (k := a.length) ⟨0, by simp, by omega, by simp, by simp⟩ ?_
 rintro k s ⟨i, rfl, hi, hab, rfl⟩
 refine yt9 [0, 1, 12, 13, 14] (by simp; rfl) ?_
 refine yk9 ?_
 refine yd9 rfl (fun h => ?_) (fun h => ?_)
 ·refine yh9 ?_
  refine yk9 ?_
  refine yf9 ?_
  refine yt9 [0, 1, 12, 13, 5] (by simp; rfl) ?_
  have hi2 : i < a.length := by simp at h; omega
  have hj2 : i < b.length := by omega
  have hi2' : (i : Int) < a.length := by omega
  have hj2' : (i : Int) < b.length := by omega
  obtain ⟨r, hr⟩ : ∃ r, a[i]? = some r := ⟨_, List.getElem?_eq_getElem hi2⟩
  obtain ⟨q, hq⟩ : ∃ q, b[i]? = some q := ⟨_, List.getElem?_eq_getElem hj2⟩
  have hr2 : a[i]'hi2 = r := by rw [List.getElem?_eq_getElem hi2] at hr; exact Option.some.inj hr
  have hq2 : b[i]'hj2 = q := by rw [List.getElem?_eq_getElem hj2] at hq; exact Option.some.inj hq
  refine W_rdK [0, 1, 12, 13, 26] mx (by decide +kernel) ?_
  refine yw9 5 (by simp [hi2, hi2', hr2]; rfl) rfl ?_
  by_cases e : r = q
  ·subst e
   have wi := w64 (n := (i : Int) + 1) (by omega) (by omega)
   refine yv9 (by simp [hj2, hj2', hq2, strA]; rfl) ?_
   refine yd9 rfl (fun h => by simp at h) (fun h => ?_)
   refine yh9 ?_
   refine zs9 [0, 1, 12, 13] (by simp [wi]; rfl) ?_
   exact ⟨_, by omega, i + 1, rfl, by omega, take_succ_eq hr hq hab, by simp⟩
  ·have hne : ¬ a = b := fun he => e (by rw [he, hq] at hr; exact (Option.some.inj hr).symm)
   have e2 : (r == q) = false := by simpa using e
   refine yv9 (by simp [hj2, hj2', hq2, e2, strA]; rfl) ?_
   refine yd9 rfl (fun h => ?_) (fun h => by simp at h)
   refine yt9 [4] (by simp; rfl) ?_
   refine zr9 ?_
   repeat (first | refine yl9 ?_ | refine yc9 ?_)
   simp [retQ, hne]
 refine zh9 ?_
 have hie : i = a.length := by simp at h; omega
 have hEq : a = b := by
  rw [hie, List.take_length] at hab
  rw [hab, c, List.take_length]
 refine yt9 [4] (by simp; rfl) ?_
 refine zr9 ?_
 repeat (first | refine yl9 ?_ | refine yc9 ?_)
 simp [retQ, hEq]
end Go.AM
