/- Parts of the walk: C31T C31U C31V C31W C31X C31Y. -/
import Derived.Test.YtlhaljblcimnbaaG4
namespace Go.AM
open Go.RowKit Go.Proofs
set_option linter.unusedSimpArgs false
set_option linter.unusedVariables false
set_option maxHeartbeats 4000000
theorem mul16 : Sound Try.prog 100 [.v (.int .u64 1), .v (.int .u64 16)] (.tup [.v (.int .u64 0), .v (.int .u64 16)]) := zq9 mx 100 (by kernel_rfl)
theorem mul80 : Sound Try.prog 100 [.v (.int .u64 1), .v (.int .u64 80)] (.tup [.v (.int .u64 0), .v (.int .u64 80)]) := zq9 mx 100 (by kernel_rfl)
@[simp] theorem underL_any (m k : Nat) : AV.underL m (List.replicate k .any) = true := by induction k <;> simp_all [List.replicate_succ, AV.underL, AV.under]
@[simp] theorem underL_app31 (m : Nat) : ∀ (a b : List AV), AV.underL m (a ++ b) = (AV.underL m a && AV.underL m b)
 | [], b => rfl
 | o :: a, b => by simp only [List.cons_append, AV.underL, underL_app31 m a b, Bool.and_assoc]
def zj9 (l : List UInt8) (k : Nat) : List AV := byL l ++ List.replicate k .any
theorem vw9 (l : List UInt8) (k : Nat) : (zj9 l k).length = l.length + k := by simp [zj9]
theorem room_app (l m : List UInt8) (k : Nat) (h : m.length ≤ k) : ys9 (zj9 l k) l.length (byL m) = zj9 (l ++ m) (k - m.length) := by
 simp [ys9, zj9, xc9, List.take_append, List.drop_append]
theorem repeat_callW (n : Nat) (hn : n = 16 ∨ n = 80) (H : List AObj) (hh : yg9 (H.length + 1) H = true) :
  wn9 Try.prog 82 [.lst .any 1 [.v (.int .u8 64)], .v (.int .i64 n)] H fun r h' => ∃ k, r = .arr H.length 0 n n ∧ h' = H ++ [.cells 5 (zj9 (List.replicate n 64) k)] := by
 refine zk9 Try.func82 rfl (by decide +kernel) (by simp [Try.f82]) (rs := [.tmp 4]) rfl ?_
 rw [show Try.f82.ntmps = 77 from rfl]
 have hmul : Sound Try.prog 100 [.v (.int .u64 1), .v (.int .u64 n)] (.tup [.v (.int .u64 0), .v (.int .u64 n)]) := by
  rcases hn with rfl | rfl
  ·exact mul16
  ·exact mul80
 have hnl : n ≤ 80 := by omega
 have hn0 : 0 < n := by omega
 have c1 : ¬ ((n : Int) = 0) := by omega
 have c2 : ¬ ((n : Int) < 0) := by omega
 have c3 : ¬ ((8192 : Int) < (n : Int)) := by omega
 have c4 : ¬ ((9223372036854775807 : Int) < (n : Int)) := by omega
 have w1 := w64 (n := (n : Int)) (by omega) (by omega)
 have w2 : IntKind.u64.wrap (n : Int) = n := by
  have h64 : ∀ k : Nat, k ≤ 80 → IntKind.u64.wrap (k : Int) = k := by decide +kernel
  exact h64 n hnl
 have w3 : IntKind.u64.wrap 1 = 1 := by decide +kernel
 refine yt9 [0, 1] (by simp; rfl) ?_
 refine yk9 ?_
 refine yt9 [0, 1, 13] (by simp [c1]; rfl) ?_
 refine yd9 rfl (fun h => by simp at h <;> omega) (fun h => ?_)
 refine yh9 ?_
 refine yk9 ?_
 refine yt9 [0, 1, 16] (by simp [c2]; rfl) ?_
 refine yd9 rfl (fun h => by simp at h <;> omega) (fun h => ?_)
 refine yh9 ?_
 refine W_rK [0, 5, 6] ?_
 refine yq9 5 (by simp [w2, w3]; rfl) rfl ?_
 refine yj9 (by simp) (by simp; rfl) hmul (by simp; rfl) ?_
 refine yr9 (by simp; rfl) ?_
 refine yk9 ?_
 refine yt9 [0, 6, 32] (by simp [c4]; rfl) ?_
 refine yd9 rfl (fun h => by simp at h <;> omega) (fun h => ?_)
 refine yh9 ?_
 refine yt9 [0, 7] (by simp [w1]; rfl) ?_
 refine yk9 ?_
 refine W_cF [0, 7, 38] (by simp; rfl) rfl ?_
 refine yh9 ?_
 refine yt9 [0, 7, 8] (by simp; rfl) ?_
 refine yk9 ?_
 refine yt9 [0, 7, 8, 42] (by simp [c3]; rfl) ?_
 refine yd9 rfl (fun h => by simp at h <;> omega) (fun h => ?_)
 refine yh9 ?_
 refine W_rGK [0, 7, 8, 9] ?_
 refine runG_A 1 _ _ ?_
 refine yr9 (by simp; rfl) ?_
 refine runG_W rfl ?_
 refine stepW_makeNoZero (f := 101) (fn := Try.f101) (ps := #[3]) (k := 53) (n := n) (t := 27) (e := 5) rfl (by simp) rfl Try.func101 (by decide +kernel) (by kernel_rfl) (by kernel_rfl) (by kernel_rfl) (by kernel_rfl) (by simp) (by omega) ?_
 intro cap hcap hmax
 refine ⟨_, by simp; rfl, ?_⟩
 refine runG_A 2 _ _ ?_
 refine yr9 (by simp; rfl) ?_
 refine runG_W rfl ?_
 refine stepW_slice3 (t := 27) (e := 5) (sz := 1) (ag := false) (id := H.length) (off := 0) (len := n) (cap := cap) (k1 := 54) (k2 := 55) (k3 := 56) (n := n) (m := n) rfl (by simp) (by simp) (by simp) (by simp) hcap (Nat.le_refl _) hn0 ?_
 refine ⟨_, by simp; rfl, ?_⟩
 refine runG_A 1 _ _ ?_
 refine yr9 (by simp; rfl) ?_
 have hcat : catK 1 ([.v (.int .u8 64)] : List AV) = some [.v (.int .u8 64)] := by rfl
 refine W_rK [7, 8, 9, 10] ?_
 refine yq9 2 (by simp; rfl) rfl ?_
 refine wm8 (t := 27) (t' := 27) (e := 5) (sz := 1) (id := H.length) (off := 0) (len := n) (cap := n) (ag := false) (oy := .any) (cs := List.replicate cap .any) (ys := [.v (.int .u8 64)]) (yc := [.v (.int .u8 64)]) (by simp) rfl rfl rfl rfl (by simp) (by simp) (by simp) (by omega) (by simp) (by simp; omega) (by rw [List.take_of_length_le (by simp; omega)]; exact hcat) ?_
 refine ⟨_, by simp; rfl, ?_⟩
 have hone : min 1 n = 1 := by omega
 refine yr9 (by simp [hone, goInt]; rfl) ?_
 have hstart : ys9 (List.replicate cap AV.any) 0 (AV.weakL [.v (.int .u8 64)]) = zj9 (List.replicate 1 64) (cap - 1) := by
  obtain ⟨k, rfl⟩ : ∃ k, cap = k + 1 := ⟨cap - 1, by omega⟩
  simp [ys9, zj9, AV.weakL, AV.weak, wt9, List.replicate_succ]
 refine yk9 ?_
 refine yf9 ?_
 refine zn9 (fun k σ => ∃ bp : Nat, k = n - bp ∧ 1 ≤ bp ∧ bp ≤ n ∧ σ = ⟨77, [(7, .v (.int .i64 (n : Nat))), (8, .v (.int .i64 (n : Nat))), (9, .arr H.length 0 n n), (10, .v (.int .i64 (bp : Nat)))], H ++ [.cells 5 (zj9 (List.replicate bp 64) (cap - bp))]⟩) (k := n - 1) ⟨1, rfl, by omega, by omega, ?_⟩ ?_
 ·rw [← hstart]
  simp
 rintro k σ ⟨bp, rfl, hb1, hb2, rfl⟩
 refine yk9 ?_
 by_cases c : bp < n
 ·have ci : (bp : Int) < n := by omega
  have ci2 : ¬ ((n : Int) < bp) := by omega
  have hle2 : (bp : Int) ≤ n := by omega
  have hne : ¬ n = bp := by omega
  obtain ⟨m, hm⟩ : ∃ m, min bp (n - bp) = m := ⟨_, rfl⟩
  have wi := w64 (n := (bp : Int) + m) (by omega) (by omega)
  refine yt9 [7, 8, 9, 10, 63] (by simp [ci]; rfl) ?_
  refine yd9 rfl (fun h => ?_) (fun h => by simp [c] at h)
  refine yh9 ?_
  refine yf9 ?_
  refine yt9 [7, 8, 9, 10, 11] (by simp [ci2]; rfl) ?_
  refine wq9 [7, 8, 9, 10] (W_anyT mx ?_)
  refine xj9 0 rfl (by decide +kernel) (yp8 10 rfl rfl rfl) rfl ?_
  refine xj9 1 rfl (by decide +kernel) (yp8 9 rfl rfl rfl) rfl ?_
  refine xj9 2 rfl (by decide +kernel) (yp8 10 rfl rfl rfl) rfl ?_
  refine xj9 3 rfl (by decide +kernel) (gives_arrLo (e := 5) (sz := 1) (ag := false) (z := .arr H.length bp (n - bp) (n - bp)) 68 69 rfl rfl (by simp) (by simp) rfl rfl (by simp [ym7, bnd, hle2, hne, hb2])) rfl ?_
  refine xj9 4 rfl (by decide +kernel) (yp8 9 rfl rfl rfl) rfl ?_
  refine xj9 5 rfl (by decide +kernel) (yp8 11 rfl rfl rfl) rfl ?_
  refine xj9 6 rfl (by decide +kernel) (gives_arrHi (e := 5) (sz := 1) (ag := false) (z := .arr H.length 0 bp n) 71 72 rfl rfl (by simp) (by simp) rfl rfl (by simp [ym7, bnd, hle2, hb2])) rfl ?_
  refine zn7 [7] (by decide +kernel) (by simp) ?_
  intro i hi
  simp only [List.mem_cons, List.not_mem_nil, or_false] at hi
  subst hi
  refine ⟨_, rfl, ?_⟩
  refine .inr ⟨rfl, ?_⟩
  refine stepW_copy (t := 27) (t' := 27) (e := 5) (sz := 1) (id := H.length) (off := bp) (len := n - bp) (cap := n - bp) (m := bp) (ag := false) (cs := zj9 (List.replicate bp 64) (cap - bp)) (yc := byL (List.replicate bp 64)) rfl rfl rfl rfl (by simp) (by simp [srcA, zj9]) (by simp) (by omega) (by simp) (by simp [vw9]; omega) ?_
  refine ⟨_, by simp; rfl, ?_⟩
  refine vc9 [8] (by decide +kernel) (by simp) ?_
  intro i hi
  simp only [List.mem_cons, List.not_mem_nil, or_false] at hi
  subst hi
  refine ⟨_, rfl, ?_⟩
  refine (show runA Try.prog _ [_] _ _ from ?_)
  rw [hm]
  refine yr9 (by simp [goInt, wi]; rfl) ?_
  refine vc9 [9] (by decide +kernel) (by simp) ?_
  intro i hi
  simp only [List.mem_cons, List.not_mem_nil, or_false] at hi
  subst hi
  refine ⟨_, rfl, ?_⟩
  refine (show runA Try.prog _ [_] _ _ from ?_)
  refine yr9 (by simp; rfl) ?_
  refine yk8 (by decide +kernel) ?_
  refine ⟨n - (bp + m), by omega, bp + m, rfl, by omega, by omega, ?_⟩
  have hseg : ys9 (zj9 (List.replicate bp 64) (cap - bp)) bp ((byL (List.replicate bp 64)).take (m * 1)) = zj9 (List.replicate (bp + m) 64) (cap - (bp + m)) := by
   have h1 := room_app (List.replicate bp 64) (List.replicate m 64) (cap - bp) (by simp; omega)
   rw [List.length_replicate, List.length_replicate] at h1
   rw [← xw9, List.take_replicate, show min (m * 1) bp = m by omega, h1, List.replicate_append_replicate, Nat.sub_sub]
  rw [← hseg]
  simp [zh8]
 ·have ci : ¬ ((bp : Int) < n) := by omega
  obtain rfl : bp = n := by omega
  refine W_cF [7, 8, 9, 10, 63] (by simp; rfl) rfl ?_
  refine zh9 ?_
  refine yt9 [4] (by simp; rfl) ?_
  refine zr9 ?_
  repeat (first | refine yl9 ?_ | refine yc9 ?_)
  refine ⟨.inr rfl, .arr H.length 0 bp bp, .arr H.length 0 bp bp, H ++ [.cells 5 (zj9 (List.replicate bp 64) (cap - bp))], H.length + 1, by simp, .inl ⟨rfl, by simp⟩, by omega, by simp, by simp [AV.under], ?_, ⟨cap - bp, rfl, ?_⟩⟩
  ·rw [List.take_of_length_le (by simp), yb8, hh]
   simp [yg9, AObj.under, zj9]
  ·rw [List.take_of_length_le (by simp)]
end Go.AM
namespace Go.AM
open Go.RowKit Go.Proofs
set_option linter.unusedSimpArgs false
set_option linter.unusedVariables false
set_option maxHeartbeats 4000000
def putM (c : List UInt8) (at_ : Nat) (l : List UInt8) : List UInt8 := c.take at_ ++ l ++ c.drop (at_ + l.length)
@[simp] theorem zm9 (c : List UInt8) (at_ : Nat) (l : List UInt8) (h : at_ + l.length ≤ c.length) : (putM c at_ l).length = c.length := by simp [putM]; omega
theorem yr7 (c l : List UInt8) (k at_ : Nat) (h : at_ + l.length ≤ c.length) : ys9 (zj9 c k) at_ (byL l) = zj9 (putM c at_ l) k := by
 simp only [ys9, zj9, putM, xc9, xw9, xp9, byL_length]
 rw [List.take_append_of_le_length (by simp; omega), List.drop_append_of_le_length (by simp; omega)]
 simp
theorem room_set (c : List UInt8) (k i : Nat) (b : UInt8) (h : i < c.length) : (zj9 c k).set i (.v (.int .u8 b.toNat)) = zj9 (c.set i b) k := by
 rw [zj9, zj9, List.set_append_left _ _ (by simpa using h), byL_set]
theorem underH_set31 (m : Nat) (o : AObj) (ho : o.under m = true) : ∀ (h : List AObj) (i : Nat), yg9 m h = true → yg9 m (h.set i o) = true
 | [], i, hh => by simp
 | x :: h, 0, hh => by simp only [List.set_cons_zero, yg9, Bool.and_eq_true] at hh ⊢; exact ⟨ho, hh.2⟩
 | x :: h, i + 1, hh => by simp only [List.set_cons_succ, yg9, Bool.and_eq_true] at hh ⊢; exact ⟨hh.1, underH_set31 m o ho h i hh.2⟩
theorem under_room (m : Nat) (c : List UInt8) (k : Nat) : (AObj.cells 5 (zj9 c k)).under m = true := by simp [AObj.under, zj9]
theorem wl9 (at_ n : Nat) (l card : List UInt8) (k : Nat) (hc : card.length = n) (hl : at_ + l.length ≤ n) (hat : at_ < n) (hn : n ≤ 1000) (H : List AObj) (ib ia : Nat) (hb : H[ib]? = some (.cells 27 [.arr ia 0 n n])) (ha : H[ia]? = some (.cells 5 (zj9 card k)))
  (hu : yg9 H.length H = true) : wn9 Try.prog 83 [.v (.int .i64 at_), .lst .any 1 (byL l), .loc ib 0] H fun r h' => r = .tup [] ∧ h' = H.set ia (.cells 5 (zj9 (putM card at_ l) k)) := by
 refine zk9 Try.func83 rfl (by decide +kernel) (by simp [Try.f83]) (rs := []) rfl ?_
 rw [show Try.f83.ntmps = 10 from rfl]
 have h1 : (at_ : Int) ≤ n := by omega
 have h2 : at_ ≤ n := by omega
 have h3 : ¬ n = at_ := by omega
 have hia : ia < H.length := (List.getElem?_eq_some_iff.1 ha).1
 refine W_rE [] ?_
 refine yq9 4 (by simp [hb, h1, h2, h3]; rfl) rfl ?_
 refine wm8 (t := 27) (t' := 27) (e := 5) (sz := 1) (id := ia) (off := at_) (len := n - at_) (cap := n - at_) (ag := false) (oy := .any) (cs := zj9 card k) (ys := byL l) (yc := byL l) (by simp) rfl rfl rfl rfl (by simp) (by simp) (by simp) (by omega) ha (by simp [vw9]; omega) (by rw [List.take_of_length_le (by simp; omega)]; exact catK_byL _) ?_
 refine ⟨_, by simp; rfl, ?_⟩
 refine yr9 (by simp; rfl) ?_
 refine ⟨.inl rfl, .tup [], .tup [], _, H.length, rfl, .inl ⟨rfl, rfl⟩, by omega, by simp, rfl, ?_, rfl, ?_⟩
 ·rw [List.take_of_length_le (by simp)]
  refine underH_set31 _ _ ?_ _ _ hu
  rw [yr7 _ _ _ _ (by omega)]
  exact under_room _ _ _
 ·rw [List.take_of_length_le (by simp)]
  rw [← yr7 _ _ _ _ (by omega)]
  simp
theorem wn9.dpArgs {P : Program} {f : FuncId} {args : List AV} {h : List AObj} {Q : AV → List AObj → Prop} (hc : wn9 P f (AV.dpL args) h Q) : wn9 P f args h Q :=
 ⟨hc.1, fun F n c w vals h1 h2 h3 h4 h5 h6 => hc.2 F n c w vals h1 h2 h3 h4 h5 h6.dpL⟩
def wh9 (n : Nat) : List UInt8 := List.replicate n 64
@[simp] theorem blankL_len (n : Nat) : (wh9 n).length = n := by simp [wh9]
theorem repeat_callX (T n : Nat) (hn : n = 16 ∨ n = 80) (H : List AObj) (hh : yg9 (H.length + 1) H = true) :
  wn9 Try.prog 82 [.lst (.tip 5 T) 1 [.v (.int .u8 64)], .v (.int .i64 n)] H fun r h' => ∃ k, r = .arr H.length 0 n n ∧ h' = H ++ [.cells 5 (zj9 (wh9 n) k)] := by
 refine wn9.dpArgs ?_
 rw [show AV.dpL [.lst (.tip 5 T) 1 [.v (.int .u8 64)], .v (.int .i64 n)] = [.lst .any 1 [.v (.int .u8 64)], .v (.int .i64 n)] by simp [AV.dpL, AV.dp]]
 exact repeat_callW n hn H hh
def wr9 (s : List UInt8) : List UInt8 := (encM s).1
def vv9 (s : List UInt8) : List UInt8 := putM ((wh9 80).set 0 2) 1 (wr9 s)
theorem zp8 (s : List UInt8) (hs : s.length ≤ 1000) (hcs : (wr9 s).length ≤ 79) (H : List AObj) (hu : yg9 H.length H = true) :
  wn9 Try.prog 45 [strB s] H fun r h' => ∃ k, r = .tup [.arr H.length 0 80 80, .fn (.func 83) [] [.loc (H.length + 1) 0]] ∧ h' = H ++ [.cells 5 (zj9 (vv9 s) k), .cells 27 [.arr H.length 0 80 80]] := by
 refine zk9 Try.func45 rfl (by decide +kernel) (by simp [Try.f45]) (rs := [.tmp 2, .tmp 3]) rfl ?_
 rw [show Try.f45.ntmps = 17 from rfl]
 have hcode := codeS_sound s (by omega)
 simp only [strB] at hcode ⊢
 refine yt9 [0] (by simp; rfl) ?_
 refine W_rK [0, 4] ?_
 refine yq9 1 (by simp; rfl) rfl ?_
 refine zg9 (f := 82) (args := [.lst (.tip 5 26) 1 [.v (.int .u8 64)], .v (.int .i64 (80 : Nat))]) (by simp) (by simp [zp9, zf9]) ((repeat_callX 26 80 (.inr rfl) _ (underH_le (Nat.le_succ _) _ hu)).mono ?_)
 rintro r h' ⟨k, rfl, rfl⟩
 refine ⟨_, by simp; rfl, ?_⟩
 refine yr9 (by simp [ys9]; rfl) ?_
 refine yt9 [0, 4, 5] (by simp; rfl) ?_
 have hset := room_set (wh9 80) k 0 2 (by simp)
 have h80 : 1 ≤ 80 + k := by omega
 refine yt9 [0, 4, 5] (by simp [vw9, h80]; rfl) ?_
 have hseg : ys9 (zj9 (wh9 80) k) 0 [.v (.int .u8 2)] = zj9 ((wh9 80).set 0 2) k := by
  rw [← room_set _ _ _ _ (by simp)]
  simp [ys9, zj9, wh9, List.replicate_succ, wt9]
 rw [hseg]
 refine W_rK [4, 5] ?_
 refine yq9 2 (by simp; rfl) rfl ?_
 refine yj9 (by simp) (by first | (simp; done) | (simp; rfl)) hcode (by simp; rfl) ?_
 refine zg9 (f := 83) (args := [.v (.int .i64 (1 : Nat)), .lst .any 1 (byL (wr9 s)), .loc (H.length + 1) 0]) (by simp) (by simp [zp9, zf9, wr9]) ((wl9 1 80 (wr9 s) ((wh9 80).set 0 2) k (by simp) (by omega) (by omega) (by omega) _ (H.length + 1) H.length ?_ ?_ ?_).mono ?_)
 ·simp
 ·simp
 ·simp [underH_append, yg9, AObj.under, AV.under, AV.underL, zj9]
  exact underH_le (by omega) _ hu
 rintro r h' ⟨rfl, rfl⟩
 refine ⟨_, by simp; rfl, ?_⟩
 refine yr9 (by simp; rfl) ?_
 have hcl : putM ((wh9 80).set 0 2) 1 (wr9 s) = vv9 s := rfl
 rw [hcl]
 refine yt9 [2, 3] (by simp; rfl) ?_
 refine zr9 ?_
 repeat (first | refine yl9 ?_ | refine yc9 ?_)
 refine ⟨.inr rfl, .tup [.arr H.length 0 80 80, .fn (.func 83) [] [.loc (H.length + 1) 0]], .tup [.arr H.length 0 80 80, .fn (.func 83) [] [.loc (H.length + 1) 0]], H ++ [.cells 5 (zj9 (vv9 s) k), .cells 27 [.arr H.length 0 80 80]], H.length + 2, ?_, .inl ⟨rfl, ?_⟩, by omega, by simp, by simp [AV.under, AV.underL], ?_, ⟨k, rfl, ?_⟩⟩
 ·simp
 ·simp
 ·rw [List.take_of_length_le (by simp), underH_append, underH_le (Nat.le_add_right _ 2) _ hu]
  simp [yg9, AObj.under, AV.under, AV.underL, zj9]
 ·rw [List.take_of_length_le (by simp)]
end Go.AM
namespace Go.AM
open Go.RowKit Go.Proofs
set_option linter.unusedSimpArgs false
set_option linter.unusedVariables false
set_option maxHeartbeats 4000000
structure Esd where
 name : List UInt8
 kind : Int
 id : Int
 addr : Int
 len : Int
def esC (x : Esd) : List AV := [strB x.name, .v (.int .i64 x.kind), .v (.int .i64 x.id), .v (.int .i64 x.addr), .v (.int .i64 x.len)]
@[simp] def esA (x : Esd) : AV := .agg [strB x.name, .v (.int .i64 x.kind), .v (.int .i64 x.id), .v (.int .i64 x.addr), .v (.int .i64 x.len)]
def xj8 (x : Esd) : List UInt8 :=
 if x.kind = 1 then putM (putM ((putM (wh9 16) 0 (wr9 x.name)).set 8 0) 9 (numM 3 x.addr.toNat)) 13 (numM 3 x.len.toNat)
 else if x.kind = 2 then putM (putM ((putM (wh9 16) 0 (wr9 x.name)).set 8 1) 9 (numM 3 x.addr.toNat)) 13 (numM 3 x.id.toNat)
 else (putM (wh9 16) 0 (wr9 x.name)).set 8 2
structure EOk (x : Esd) : Prop where
 n : (wr9 x.name).length ≤ 8
 n2 : x.name.length ≤ 1000
 i0 : 0 ≤ x.id
 i1 : x.id ≤ 1000000
 a0 : 0 ≤ x.addr
 a1 : x.addr ≤ 1000000
 l0 : 0 ≤ x.len
 l1 : x.len ≤ 1000000
theorem vm9 (xs : List AV) (i : Nat) (y : AV) (h : i < xs.length) : ys9 xs i [y] = xs.set i y := by
 rw [ys9, List.set_eq_take_append_cons_drop, if_pos h]
 simp
theorem koneL_app31 : ∀ (a b : List AV), AV.koneL (a ++ b) = (AV.koneL a && AV.koneL b)
 | [], b => rfl
 | x :: a, b => by simp only [List.cons_append, AV.koneL, koneL_app31 a b, Bool.and_assoc]
theorem frz_room {h : List AObj} (T id n : Nat) (c : List UInt8) (k : Nat) (hid : h[id]? = some (.cells 5 (zj9 c k))) (hc : c.length = n) : ∃ o : Fl × List AObj, vl9 Try.prog h T id 0 n n = some (.lst o.1 1 (byL c), o.2) ∧ (∃ x, o.2 = h.set id x ∧ ∀ m, x.under m = true) := by
 have e2 : tyI Try.prog 5 = some (false, 1) := by simp
 subst hc
 cases k with
 | zero =>
  have e0 : zj9 c 0 = byL c := by simp [zj9]
  rw [e0] at hid
  refine ⟨(if 0 = 0 ∧ c.length = c.length ∧ c.length * 1 = (byL c).length then .tip 5 T else .any, h.set id (.froz 5 (byL c))), ?_, _, rfl, fun m => by simp [AObj.under]⟩
  simp only [vl9, hid, e2]
  rw [if_pos ⟨by omega, .inr trivial, by simp, koneL_byL _, rfL_byL _⟩, weakL_byL, List.drop_zero, vj8 _ _ (by omega), List.take_of_length_le (by omega)]
 | succ k =>
  have e1 : (zj9 c (k + 1)).take (0 + c.length * 1) = byL c := by
   rw [zj9, Nat.zero_add, Nat.mul_one, List.take_append_of_le_length (by simp), List.take_of_length_le (by simp)]
  have e3 : AV.koneL (zj9 c (k + 1)) = false := by
   rw [zj9, koneL_app31, List.replicate_succ]
   simp [AV.koneL, AV.kone]
  refine ⟨(.any, h.set id (.froz 5 (byL c))), ?_, _, rfl, fun m => by simp [AObj.under]⟩
  simp only [vl9, hid, e2, e1]
  rw [if_neg (by rw [e3]; simp), if_pos ⟨by omega, .inr trivial, by simp [vw9], koneL_byL _, rfL_byL _⟩, weakL_byL, List.drop_zero, vj8 _ _ (by omega), List.take_of_length_le (by omega)]
theorem esdItem_sound (x : Esd) (hk : EOk x) : Sound Try.prog 49 [esA x] (.lst .any 1 (byL (xj8 x))) := by
 refine yw8 Try.func49 rfl (by decide +kernel) (by simp [Try.f49]) rfl rfl (rs := [.tmp 2]) rfl ?_
 rw [show Try.f49.ntmps = 48 from rfl]
 obtain ⟨n1, n2, i0, i1, a0, a1, l0, l1⟩ := hk
 have hcode := codeS_sound x.name (by omega)
 simp only [strB] at hcode
 refine yt9 [1] (by simp; rfl) ?_
 refine W_rK [1, 3] ?_
 refine yq9 1 (by simp; rfl) rfl ?_
 refine zg9 (f := 82) (args := [.lst (.tip 5 18) 1 [.v (.int .u8 64)], .v (.int .i64 (16 : Nat))]) (by simp) (by simp [zp9, zf9]) ((repeat_callX 18 16 (.inl rfl) _ ?_).mono ?_)
 ·simp [yg9, AObj.under, AV.under, AV.underL, strB]
 rintro r h' ⟨k, rfl, rfl⟩
 refine ⟨_, by simp; rfl, ?_⟩
 refine yr9 (by simp; rfl) ?_
 have hb0 := yr7 (wh9 16) (wr9 x.name) k 0 (by simp; omega)
 obtain ⟨b, hb⟩ : ∃ b, putM (wh9 16) 0 (wr9 x.name) = b := ⟨_, rfl⟩
 have hbl : b.length = 16 := by rw [← hb, zm9 _ _ _ (by simp; omega)]; simp
 rw [hb] at hb0
 refine W_rK [1, 3] ?_
 refine yq9 3 (by simp; rfl) rfl ?_
 refine yj9 (by simp) (by first | (simp; done) | (simp; rfl)) hcode (by simp; rfl) ?_
 refine wm8 (t := 27) (t' := 27) (e := 5) (sz := 1) (id := 1) (off := 0) (len := 16) (cap := 16) (ag := false) (oy := .any) (cs := zj9 (wh9 16) k) (ys := byL (wr9 x.name)) (yc := byL (wr9 x.name)) (by simp) rfl rfl rfl rfl (by simp) (by simp [wr9]) (by simp) (by omega) (by simp) (by simp [vw9]) (by rw [List.take_of_length_le (by simp; omega)]; exact catK_byL _) ?_
 refine ⟨_, by simp; rfl, ?_⟩
 refine yr9 (by simp [hb0]; rfl) ?_
 refine xg9 (fun σ => σ = ⟨48, [(3, .arr 1 0 16 16)], [.cells 78 (esC x), .cells 5 (zj9 (xj8 x) k)]⟩) ?_ ?_
 ·refine yt9 [1, 3, 12] (by simp; rfl) ?_
  refine yf9 ?_
  have h8 : 9 ≤ 16 + k := by omega
  by_cases c1 : x.kind = 1
  ·refine W_cT [1, 3, 12, 15] (by simp [c1]; rfl) rfl ?_
   have b1l : (b.set 8 0).length = 16 := by simp [hbl]
   have hseg0 : ys9 (zj9 b k) 8 [.v (.int .u8 0)] = zj9 (b.set 8 0) k := by
    rw [← room_set _ _ _ _ (by omega)]
    exact (vm9 _ _ _ (by rw [vw9]; omega))
   refine yt9 [1, 3] (by simp [vw9, hbl, h8]; rfl) ?_
   rw [hseg0]
   obtain ⟨b1, hb1⟩ : ∃ b1, b.set 8 0 = b1 := ⟨_, rfl⟩
   rw [hb1] at b1l ⊢
   have hb1p := yr7 b1 (numM 3 x.addr.toNat) k 9 (by simp; omega)
   refine W_rsK 5 [1, 3] mx (by decide +kernel) ?_
   refine yw9 4 (by simp; rfl) rfl ?_
   refine yb9 (by simp) (by first | (simp; done) | (simp; rfl)) (numZ x.addr 3 a0 (by omega) (by omega)) (by simp; rfl) ?_
   refine wm8 (t := 27) (t' := 27) (e := 5) (sz := 1) (id := 1) (off := 9) (len := 7) (cap := 7) (ag := false) (oy := .any) (cs := zj9 b1 k) (ys := byL (numM 3 x.addr.toNat)) (yc := byL (numM 3 x.addr.toNat)) (by simp) rfl rfl rfl rfl (by simp) (by simp) (by simp) (by omega) (by simp) (by simp [vw9, b1l]) (by rw [List.take_of_length_le (by simp)]; exact catK_byL _) ?_
   refine ⟨_, by simp; rfl, ?_⟩
   refine yr9 (by simp [hb1p]; rfl) ?_
   obtain ⟨b2, hb2⟩ : ∃ b2, putM b1 9 (numM 3 x.addr.toNat) = b2 := ⟨_, rfl⟩
   have b2l : b2.length = 16 := by rw [← hb2, zm9 _ _ _ (by simp; omega)]; exact b1l
   rw [hb2]
   have hb2p := yr7 b2 (numM 3 x.len.toNat) k 13 (by simp; omega)
   refine W_rsE 5 [3] mx (by decide +kernel) ?_
   refine yw9 4 (by simp; rfl) rfl ?_
   refine yb9 (by simp) (by first | (simp; done) | (simp; rfl)) (numZ x.len 3 l0 (by omega) (by omega)) (by simp; rfl) ?_
   refine wm8 (t := 27) (t' := 27) (e := 5) (sz := 1) (id := 1) (off := 13) (len := 3) (cap := 3) (ag := false) (oy := .any) (cs := zj9 b2 k) (ys := byL (numM 3 x.len.toNat)) (yc := byL (numM 3 x.len.toNat)) (by simp) rfl rfl rfl rfl (by simp) (by simp) (by simp) (by omega) (by simp) (by simp [vw9, b2l]) (by rw [List.take_of_length_le (by simp)]; exact catK_byL _) ?_
   refine ⟨_, by simp; rfl, ?_⟩
   simp [runA, yp9, inBlk, hb2p, xj8, esC, hb, hb1, hb2, c1]
  ·refine yt9 [1, 3, 12, 15] (by simp [c1]; rfl) ?_
   refine yd9 rfl (fun h => absurd (by simpa using h) c1) (fun h => ?_)
   by_cases c2 : x.kind = 2
   ·refine W_cT [1, 3, 31] (by simp [c2]; rfl) rfl ?_
    have b1l : (b.set 8 1).length = 16 := by simp [hbl]
    have hseg0 : ys9 (zj9 b k) 8 [.v (.int .u8 1)] = zj9 (b.set 8 1) k := by
     rw [← room_set _ _ _ _ (by omega)]
     exact (vm9 _ _ _ (by rw [vw9]; omega))
    refine yt9 [1, 3] (by simp [vw9, hbl, h8]; rfl) ?_
    rw [hseg0]
    obtain ⟨b1, hb1⟩ : ∃ b1, b.set 8 1 = b1 := ⟨_, rfl⟩
    rw [hb1] at b1l ⊢
    have hb1p := yr7 b1 (numM 3 x.addr.toNat) k 9 (by simp; omega)
    refine W_rsK 5 [1, 3] mx (by decide +kernel) ?_
    refine yw9 4 (by simp; rfl) rfl ?_
    refine yb9 (by simp) (by first | (simp; done) | (simp; rfl)) (numZ x.addr 3 a0 (by omega) (by omega)) (by simp; rfl) ?_
    refine wm8 (t := 27) (t' := 27) (e := 5) (sz := 1) (id := 1) (off := 9) (len := 7) (cap := 7) (ag := false) (oy := .any) (cs := zj9 b1 k) (ys := byL (numM 3 x.addr.toNat)) (yc := byL (numM 3 x.addr.toNat)) (by simp) rfl rfl rfl rfl (by simp) (by simp) (by simp) (by omega) (by simp) (by simp [vw9, b1l]) (by rw [List.take_of_length_le (by simp)]; exact catK_byL _) ?_
    refine ⟨_, by simp; rfl, ?_⟩
    refine yr9 (by simp [hb1p]; rfl) ?_
    obtain ⟨b2, hb2⟩ : ∃ b2, putM b1 9 (numM 3 x.addr.toNat) = b2 := ⟨_, rfl⟩
    have b2l : b2.length = 16 := by rw [← hb2, zm9 _ _ _ (by simp; omega)]; exact b1l
    rw [hb2]
    have hb2p := yr7 b2 (numM 3 x.id.toNat) k 13 (by simp; omega)
    refine W_rsE 5 [3] mx (by decide +kernel) ?_
    refine yw9 4 (by simp; rfl) rfl ?_
    refine yb9 (by simp) (by first | (simp; done) | (simp; rfl)) (numZ x.id 3 i0 (by omega) (by omega)) (by simp; rfl) ?_
    refine wm8 (t := 27) (t' := 27) (e := 5) (sz := 1) (id := 1) (off := 13) (len := 3) (cap := 3) (ag := false) (oy := .any) (cs := zj9 b2 k) (ys := byL (numM 3 x.id.toNat)) (yc := byL (numM 3 x.id.toNat)) (by simp) rfl rfl rfl rfl (by simp) (by simp) (by simp) (by omega) (by simp) (by simp [vw9, b2l]) (by rw [List.take_of_length_le (by simp)]; exact catK_byL _) ?_
    refine ⟨_, by simp; rfl, ?_⟩
    simp [runA, yp9, inBlk, hb2p, xj8, esC, hb, hb1, hb2, c1, c2]
   ·refine yt9 [1, 3, 31] (by simp [c2]; rfl) ?_
    refine yd9 rfl (fun h => absurd (by simpa using h) c2) (fun h => ?_)
    have hseg0 : ys9 (zj9 b k) 8 [.v (.int .u8 2)] = zj9 (b.set 8 2) k := by
     rw [← room_set _ _ _ _ (by omega)]
     exact (vm9 _ _ _ (by rw [vw9]; omega))
    refine zs9 [3] (by simp [vw9, hbl, h8]; rfl) ?_
    simp [yp9, inBlk, hseg0, xj8, esC, hb, c1, c2]
 rintro _ rfl
 refine yt9 [2] (by simp; rfl) ?_
 refine zr9 ?_
 repeat (first | refine yl9 ?_ | refine yc9 ?_)
 have hel : (xj8 x).length = 16 := by
  unfold xj8
  rw [hb]
  split
  ·rw [zm9 _ _ _ (by rw [zm9 _ _ _ (by simp; omega)]; simp; omega), zm9 _ _ _ (by simp; omega)]; simpa using hbl
  ·split
   ·rw [zm9 _ _ _ (by rw [zm9 _ _ _ (by simp; omega)]; simp; omega), zm9 _ _ _ (by simp; omega)]; simpa using hbl
   ·simpa using hbl
 obtain ⟨o, hfz⟩ := frz_room (h := [.cells 78 (esC x), .cells 5 (zj9 (xj8 x) k)]) 1 1 16 (xj8 x) k rfl hel
 exact ⟨_, by simp [retQ, hfz]; exact ⟨rfl, by simp⟩, .inr (by simp)⟩
end Go.AM
namespace Go.AM
open Go.RowKit Go.Proofs
set_option linter.unusedSimpArgs false
set_option linter.unusedVariables false
set_option maxHeartbeats 4000000
def getS (i : Int) : List (Int × Esd) → Option Esd
 | [] => none
 | (j, x) :: l => if i = j then some x else getS i l
def updS (i : Int) (x : Esd) : List (Int × Esd) → List (Int × Esd)
 | [] => [(i, x)]
 | (j, y) :: l => if i = j then (i, x) :: l else (j, y) :: updS i x l
def getN (s : List UInt8) : List (List UInt8 × Int) → Option Int
 | [] => none
 | (t, k) :: l => if s = t then some k else getN s l
def updN (s : List UInt8) (k : Int) : List (List UInt8 × Int) → List (List UInt8 × Int)
 | [] => [(s, k)]
 | (t, m) :: l => if s = t then (s, k) :: l else (t, m) :: updN s k l
def secE (l : List (Int × Esd)) : List (Value × AV) := l.map fun p => (.int .i64 p.1, esA p.2)
def namE (l : List (List UInt8 × Int)) : List (Value × AV) := l.map fun p => (.string ⟨p.1.toArray⟩, .v (.int .i64 p.2))
theorem mfind_secE (i : Int) : ∀ l : List (Int × Esd), mfind (.int .i64) (.int .i64 i) (secE l) = some ((getS i l).map esA)
 | [] => rfl
 | (j, x) :: l => by
  have ih := mfind_secE i l
  by_cases h : i = j
  ·simp [secE, mfind, Instr.sameNow, getS, h]
  ·simp only [secE, List.map_cons, mfind, Instr.sameNow, getS, if_neg h, if_true]
   rw [show (i == j) = false by simpa using h]
   exact ih
theorem mset_secE (i : Int) (x : Esd) : ∀ l : List (Int × Esd), mset (.int .i64) (.int .i64 i) (esA x) (secE l) = some (secE (updS i x l))
 | [] => rfl
 | (j, y) :: l => by
  have ih := mset_secE i x l
  by_cases h : i = j
  ·simp [secE, mset, Instr.sameNow, updS, h]
  ·simp only [secE, List.map_cons, mset, Instr.sameNow, updS, if_neg h, if_true]
   rw [show (i == j) = false by simpa using h]
   show Option.map _ (mset _ _ _ (secE l)) = _
   rw [ih]
   rfl
theorem ba_beq31 (a b : List UInt8) : ((ByteArray.mk a.toArray) == (ByteArray.mk b.toArray)) = (a == b) := by
 rw [Bool.eq_iff_iff, MapKept.bytes_beq]
 simp
theorem mfind_namE (s : List UInt8) : ∀ l : List (List UInt8 × Int), mfind .string (.string ⟨s.toArray⟩) (namE l) = some ((getN s l).map fun k => .v (.int .i64 k))
 | [] => rfl
 | (t, k) :: l => by
  have ih := mfind_namE s l
  simp only [namE, List.map_cons, mfind, Instr.sameNow, getN, ba_beq31]
  by_cases h : s = t
  ·simp [h]
  ·rw [show (s == t) = false by simpa using h, if_neg h]
   exact ih
theorem mset_namE (s : List UInt8) (k : Int) : ∀ l : List (List UInt8 × Int), mset .string (.string ⟨s.toArray⟩) (.v (.int .i64 k)) (namE l) = some (namE (updN s k l))
 | [] => rfl
 | (t, m) :: l => by
  have ih := mset_namE s k l
  simp only [namE, List.map_cons, mset, Instr.sameNow, updN, ba_beq31]
  by_cases h : s = t
  ·simp [h]
  ·rw [show (s == t) = false by simpa using h, if_neg h]
   show Option.map _ (mset _ _ _ (namE l)) = _
   rw [ih]
   rfl
def SOk (S : List (Int × Esd)) : Prop := ∀ i x, getS i S = some x → 0 ≤ x.addr ∧ x.addr ≤ 65536 ∧ 0 ≤ x.len ∧ x.len ≤ 65536
def liesX (x : Esd) (at_ n : Int) : Bool := decide (x.addr ≤ at_) && (decide (at_ - x.addr ≤ x.len) && decide (n ≤ x.len - (at_ - x.addr)))
def liesM (S : List (Int × Esd)) (id at_ n : Int) : Bool := match getS id S with
 | some x => liesX x at_ n
 | none => false
abbrev HC (S : List (Int × Esd)) (N : List (List UInt8 × Int)) (nx : Int) (ob : List AV) (ys : List AObj) : List AObj := .cells 26 ob :: .map (secE S) :: .map (namE N) :: .cells 135 [.mp 1, .mp 2, .v (.int .i64 nx)] :: ys
theorem zc9 (m : Nat) (l : List (Int × Esd)) : xk9 m (secE l) = true := by
 induction l <;> simp_all [secE, xk9, AV.under, AV.underL, strB]
theorem zv9 (m : Nat) (l : List (List UInt8 × Int)) : xk9 m (namE l) = true := by
 induction l <;> simp_all [namE, xk9, AV.under, AV.underL, strB]
def i64r (x : Int) : Prop := -9223372036854775808 ≤ x ∧ x ≤ 9223372036854775807
theorem lies_callW (S : List (Int × Esd)) (N : List (List UInt8 × Int)) (nx : Int) (ob : List AV) (ty : TypeId) (cs : List AV) (id at_ n : Int) (hS : SOk S) (ha : i64r at_) (hob : AV.underL 5 ob = true) (hy : AV.underL 5 cs = true) :
  wn9 Try.prog 68 [.loc 3 0, .v (.int .i64 id), .v (.int .i64 at_), .v (.int .i64 n)] (HC S N nx ob [.cells ty cs]) fun r h' => r = .v (.bool (liesM S id at_ n)) ∧ h' = HC S N nx ob [.cells ty cs] := by
 refine zk9 Try.func68 rfl (by decide +kernel) (by simp [Try.f68]) (rs := [.tmp 8]) rfl ?_
 rw [show Try.f68.ntmps = 47 from rfl]
 obtain ⟨ha0, ha1⟩ := ha
 have hfind := mfind_secE id S
 refine yt9 [0, 1, 2, 3] (by simp; rfl) ?_
 cases hg : getS id S with
 | none =>
  rw [hg] at hfind
  refine W_rK [2, 3, 9, 10] ?_
  refine yq9 6 (by simp [xd8, mapOf, zf7, hfind]; rfl) rfl ?_
  refine yr9 (by simp; rfl) ?_
  refine W_rK [8] ?_
  refine yq9 6 (by simp; rfl) rfl ?_
  refine yq9 6 (by simp; rfl) rfl ?_
  refine yq9 6 (by simp; rfl) rfl ?_
  refine yq9 6 (by simp; rfl) rfl ?_
  refine yr9 (by simp; rfl) ?_
  refine zr9 ?_
  repeat (first | refine yl9 ?_ | refine yc9 ?_)
  exact xr9 5 (by simp [resA]; rfl) (by simp) (by simp) (by simp [AV.under, AV.underL, yg9, AObj.under, hob, hy, zc9, zv9]) (by simp [liesM, hg])
 | some x =>
  rw [hg] at hfind
  obtain ⟨b1, b2, b3, b4⟩ := hS id x hg
  refine W_rK [2, 3, 9, 10] ?_
  refine yq9 6 (by simp [xd8, mapOf, zf7, hfind]; rfl) rfl ?_
  refine yr9 (by simp [ys9]; rfl) ?_
  by_cases c1 : x.addr ≤ at_
  ·have c1a : x.addr ≤ at_ := c1
   have w1 : IntKind.i64.wrap (at_ - x.addr) = at_ - x.addr := w64 (by omega) (by omega)
   by_cases c2 : at_ - x.addr ≤ x.len
   ·have c2a : at_ - x.addr ≤ x.len := c2
    have w2 : IntKind.i64.wrap (x.len - (at_ - x.addr)) = x.len - (at_ - x.addr) := w64 (by omega) (by omega)
    by_cases c3 : n ≤ x.len - (at_ - x.addr)
    ·refine W_rK [8] ?_
     refine yq9 6 (by simp [c1a, w1, c2a, w2, c3]; rfl) rfl ?_
     refine yq9 6 (by simp [c1a, w1, c2a, w2, c3]; rfl) rfl ?_
     refine yq9 6 (by simp [c1a, w1, c2a, w2, c3]; rfl) rfl ?_
     refine yq9 6 (by simp [c1a, w1, c2a, w2, c3]; rfl) rfl ?_
     refine yr9 (by simp [c1a, w1, c2a, w2, c3]; rfl) ?_
     refine zr9 ?_
     repeat (first | refine yl9 ?_ | refine yc9 ?_)
     exact xr9 5 (by simp [resA]; rfl) (by simp) (by simp) (by simp [AV.under, AV.underL, yg9, AObj.under, hob, hy, zc9, zv9]) (by simp [liesM, hg, liesX, c1a, w1, c2a, w2, c3])
    refine W_rK [8] ?_
    refine yq9 6 (by simp [c1a, w1, c2a, w2, c3]; rfl) rfl ?_
    refine yq9 6 (by simp [c1a, w1, c2a, w2, c3]; rfl) rfl ?_
    refine yq9 6 (by simp [c1a, w1, c2a, w2, c3]; rfl) rfl ?_
    refine yq9 6 (by simp [c1a, w1, c2a, w2, c3]; rfl) rfl ?_
    refine yr9 (by simp [c1a, w1, c2a, w2, c3]; rfl) ?_
    refine zr9 ?_
    repeat (first | refine yl9 ?_ | refine yc9 ?_)
    exact xr9 5 (by simp [resA]; rfl) (by simp) (by simp) (by simp [AV.under, AV.underL, yg9, AObj.under, hob, hy, zc9, zv9]) (by simp [liesM, hg, liesX, c1a, w1, c2a, w2, c3])
   refine W_rK [8] ?_
   refine yq9 6 (by simp [c1a, w1, c2]; rfl) rfl ?_
   refine yq9 6 (by simp [c1a, w1, c2]; rfl) rfl ?_
   refine yq9 6 (by simp [c1a, w1, c2]; rfl) rfl ?_
   refine yq9 6 (by simp [c1a, w1, c2]; rfl) rfl ?_
   refine yr9 (by simp [c1a, w1, c2]; rfl) ?_
   refine zr9 ?_
   repeat (first | refine yl9 ?_ | refine yc9 ?_)
   exact xr9 5 (by simp [resA]; rfl) (by simp) (by simp) (by simp [AV.under, AV.underL, yg9, AObj.under, hob, hy, zc9, zv9]) (by simp [liesM, hg, liesX, c1a, w1, c2])
  refine W_rK [8] ?_
  refine yq9 6 (by simp [c1]; rfl) rfl ?_
  refine yq9 6 (by simp [c1]; rfl) rfl ?_
  refine yq9 6 (by simp [c1]; rfl) rfl ?_
  refine yq9 6 (by simp [c1]; rfl) rfl ?_
  refine yr9 (by simp [c1]; rfl) ?_
  refine zr9 ?_
  repeat (first | refine yl9 ?_ | refine yc9 ?_)
  exact xr9 5 (by simp [resA]; rfl) (by simp) (by simp) (by simp [AV.under, AV.underL, yg9, AObj.under, hob, hy, zc9, zv9]) (by simp [liesM, hg, liesX, c1])
end Go.AM
namespace Go.AM
open Go.RowKit Go.Proofs
set_option linter.unusedSimpArgs false
set_option linter.unusedVariables false
set_option maxHeartbeats 4000000
def rule1 (nx : Int) (x : Esd) : Bool := decide (x.id = nx) && (decide (0 ≤ x.addr) && (decide (0 ≤ x.len) && (decide (x.addr ≤ 65536) && (decide (x.len ≤ 65536 - x.addr) && (decide (x.name = []) || symM x.name)))))
def rule2 (x : Esd) : Bool := decide (x.len = 0) && symM x.name
def rule3 (nx : Int) (x : Esd) : Bool := decide (x.id = nx) && (decide (x.addr = 0) && (decide (x.len = 0) && symM x.name))
abbrev arrC : List AV := [.v Value.nilFunc, .fn (.func 105) [] [.loc 4 0], .fn (.func 107) [] [], .fn (.func 108) [] [.loc 4 0]]
abbrev HQ (S : List (Int × Esd)) (N : List (List UInt8 × Int)) (nx : Int) (ob : List AV) (x : Esd) : List AObj := HC S N nx ob [.cells 131 [.loc 3 0], .cells 165 arrC, .cells 78 (esC x)]
theorem clos105_callW (S : List (Int × Esd)) (N : List (List UInt8 × Int)) (nx : Int) (ob : List AV) (x : Esd) (hob : AV.underL 7 ob = true) (hx : x.name.length ≤ 9223372036854775807) : wn9 Try.prog 105 [esA x, .loc 4 0] (HQ S N nx ob x) fun v h => v = .v (.bool (rule1 nx x)) ∧ h = HQ S N nx ob x := by
 refine zk9 Try.func105 rfl (by decide +kernel) (by simp [Try.f105]) (rs := [.tmp 3]) rfl ?_
 rw [show Try.f105.ntmps = 44 from rfl]
 have hsym := symbol_sound x.name (by omega)
 simp only [strB] at hsym
 refine yt9 [1, 2] (by simp; rfl) ?_
 by_cases c1 : x.id = nx
 ·have c1a : x.id = nx := c1
  by_cases c2 : 0 ≤ x.addr
  ·by_cases c3 : 0 ≤ x.len
   ·by_cases c4 : x.addr ≤ 65536
    ·have c4a : x.addr ≤ 65536 := c4
     have w1 : IntKind.i64.wrap (65536 - x.addr) = 65536 - x.addr := w64 (by omega) (by omega)
     by_cases c5 : x.len ≤ 65536 - x.addr
     ·by_cases c6 : x.name = []
      ·have c6a : x.name = [] := c6
       refine W_rdK [3] mx (by decide +kernel) ?_
       refine yw9 6 (by simp [strB, esC, c1a, c2, c3, c4a, w1, c5, c6a]; rfl) rfl ?_
       refine yw9 6 (by simp [strB, esC, c1a, c2, c3, c4a, w1, c5, c6a]; rfl) rfl ?_
       refine yw9 6 (by simp [strB, esC, c1a, c2, c3, c4a, w1, c5, c6a]; rfl) rfl ?_
       refine yw9 6 (by simp [strB, esC, c1a, c2, c3, c4a, w1, c5, c6a]; rfl) rfl ?_
       refine yw9 6 (by simp [strB, esC, c1a, c2, c3, c4a, w1, c5, c6a]; rfl) rfl ?_
       refine yw9 6 (by simp [strB, esC, c1a, c2, c3, c4a, w1, c5, c6a]; rfl) rfl ?_
       refine yw9 1 (by simp [strB, esC, c1a, c2, c3, c4a, w1, c5, c6a]; rfl) rfl ?_
       refine yv9 (by simp [c1a, c2, c3, c4a, w1, c5, c6a]; rfl) ?_
       refine zr9 ?_
       repeat (first | refine yl9 ?_ | refine yc9 ?_)
       exact xr9 7 (by simp [resA]; rfl) (by simp) (by simp) (by simp [AV.under, AV.underL, yg9, AObj.under, hob, zc9, zv9, esC, strB]) (by simp [esC, strB, rule1, c1a, c2, c3, c4a, w1, c5, c6a])
      have c6a : ¬ x.name = [] := c6
      have c6b : (x.name == []) = false := beq_eq_false_iff_ne.2 c6
      refine W_rdK [3] mx (by decide +kernel) ?_
      refine yw9 6 (by simp [strB, esC, c1a, c2, c3, c4a, w1, c5, c6a, c6b]; rfl) rfl ?_
      refine yw9 6 (by simp [strB, esC, c1a, c2, c3, c4a, w1, c5, c6a, c6b]; rfl) rfl ?_
      refine yw9 6 (by simp [strB, esC, c1a, c2, c3, c4a, w1, c5, c6a, c6b]; rfl) rfl ?_
      refine yw9 6 (by simp [strB, esC, c1a, c2, c3, c4a, w1, c5, c6a, c6b]; rfl) rfl ?_
      refine yw9 6 (by simp [strB, esC, c1a, c2, c3, c4a, w1, c5, c6a, c6b]; rfl) rfl ?_
      refine yw9 6 (by simp [strB, esC, c1a, c2, c3, c4a, w1, c5, c6a, c6b]; rfl) rfl ?_
      refine yw9 1 (by simp [strB, esC, c1a, c2, c3, c4a, w1, c5, c6a, c6b]; rfl) rfl ?_
      refine yb9 (by simp) (by first | (simp; done) | (simp; rfl)) hsym (by simp; rfl) ?_
      refine yv9 (by simp [c1a, c2, c3, c4a, w1, c5, c6a, c6b]; rfl) ?_
      refine zr9 ?_
      repeat (first | refine yl9 ?_ | refine yc9 ?_)
      exact xr9 7 (by simp [resA]; rfl) (by simp) (by simp) (by simp [AV.under, AV.underL, yg9, AObj.under, hob, zc9, zv9, esC, strB]) (by simp [esC, strB, rule1, c1a, c2, c3, c4a, w1, c5, c6a, c6b])
     refine W_rdK [3] mx (by decide +kernel) ?_
     refine yw9 6 (by simp [strB, esC, c1a, c2, c3, c4a, w1, c5]; rfl) rfl ?_
     refine yw9 6 (by simp [strB, esC, c1a, c2, c3, c4a, w1, c5]; rfl) rfl ?_
     refine yw9 6 (by simp [strB, esC, c1a, c2, c3, c4a, w1, c5]; rfl) rfl ?_
     refine yw9 6 (by simp [strB, esC, c1a, c2, c3, c4a, w1, c5]; rfl) rfl ?_
     refine yw9 6 (by simp [strB, esC, c1a, c2, c3, c4a, w1, c5]; rfl) rfl ?_
     refine yw9 6 (by simp [strB, esC, c1a, c2, c3, c4a, w1, c5]; rfl) rfl ?_
     refine yw9 1 (by simp [strB, esC, c1a, c2, c3, c4a, w1, c5]; rfl) rfl ?_
     refine yv9 (by simp [c1a, c2, c3, c4a, w1, c5]; rfl) ?_
     refine zr9 ?_
     repeat (first | refine yl9 ?_ | refine yc9 ?_)
     exact xr9 7 (by simp [resA]; rfl) (by simp) (by simp) (by simp [AV.under, AV.underL, yg9, AObj.under, hob, zc9, zv9, esC, strB]) (by simp [esC, strB, rule1, c1a, c2, c3, c4a, w1, c5])
    refine W_rdK [3] mx (by decide +kernel) ?_
    refine yw9 6 (by simp [strB, esC, c1a, c2, c3, c4]; rfl) rfl ?_
    refine yw9 6 (by simp [strB, esC, c1a, c2, c3, c4]; rfl) rfl ?_
    refine yw9 6 (by simp [strB, esC, c1a, c2, c3, c4]; rfl) rfl ?_
    refine yw9 6 (by simp [strB, esC, c1a, c2, c3, c4]; rfl) rfl ?_
    refine yw9 6 (by simp [strB, esC, c1a, c2, c3, c4]; rfl) rfl ?_
    refine yw9 6 (by simp [strB, esC, c1a, c2, c3, c4]; rfl) rfl ?_
    refine yw9 1 (by simp [strB, esC, c1a, c2, c3, c4]; rfl) rfl ?_
    refine yv9 (by simp [c1a, c2, c3, c4]; rfl) ?_
    refine zr9 ?_
    repeat (first | refine yl9 ?_ | refine yc9 ?_)
    exact xr9 7 (by simp [resA]; rfl) (by simp) (by simp) (by simp [AV.under, AV.underL, yg9, AObj.under, hob, zc9, zv9, esC, strB]) (by simp [esC, strB, rule1, c1a, c2, c3, c4])
   refine W_rdK [3] mx (by decide +kernel) ?_
   refine yw9 6 (by simp [strB, esC, c1a, c2, c3]; rfl) rfl ?_
   refine yw9 6 (by simp [strB, esC, c1a, c2, c3]; rfl) rfl ?_
   refine yw9 6 (by simp [strB, esC, c1a, c2, c3]; rfl) rfl ?_
   refine yw9 6 (by simp [strB, esC, c1a, c2, c3]; rfl) rfl ?_
   refine yw9 6 (by simp [strB, esC, c1a, c2, c3]; rfl) rfl ?_
   refine yw9 6 (by simp [strB, esC, c1a, c2, c3]; rfl) rfl ?_
   refine yw9 1 (by simp [strB, esC, c1a, c2, c3]; rfl) rfl ?_
   refine yv9 (by simp [c1a, c2, c3]; rfl) ?_
   refine zr9 ?_
   repeat (first | refine yl9 ?_ | refine yc9 ?_)
   exact xr9 7 (by simp [resA]; rfl) (by simp) (by simp) (by simp [AV.under, AV.underL, yg9, AObj.under, hob, zc9, zv9, esC, strB]) (by simp [esC, strB, rule1, c1a, c2, c3])
  refine W_rdK [3] mx (by decide +kernel) ?_
  refine yw9 6 (by simp [strB, esC, c1a, c2]; rfl) rfl ?_
  refine yw9 6 (by simp [strB, esC, c1a, c2]; rfl) rfl ?_
  refine yw9 6 (by simp [strB, esC, c1a, c2]; rfl) rfl ?_
  refine yw9 6 (by simp [strB, esC, c1a, c2]; rfl) rfl ?_
  refine yw9 6 (by simp [strB, esC, c1a, c2]; rfl) rfl ?_
  refine yw9 6 (by simp [strB, esC, c1a, c2]; rfl) rfl ?_
  refine yw9 1 (by simp [strB, esC, c1a, c2]; rfl) rfl ?_
  refine yv9 (by simp [c1a, c2]; rfl) ?_
  refine zr9 ?_
  repeat (first | refine yl9 ?_ | refine yc9 ?_)
  exact xr9 7 (by simp [resA]; rfl) (by simp) (by simp) (by simp [AV.under, AV.underL, yg9, AObj.under, hob, zc9, zv9, esC, strB]) (by simp [esC, strB, rule1, c1a, c2])
 have c1a : ¬ x.id = nx := c1
 have c1b : (x.id == nx) = false := beq_eq_false_iff_ne.2 c1
 refine W_rdK [3] mx (by decide +kernel) ?_
 refine yw9 6 (by simp [strB, esC, c1a, c1b]; rfl) rfl ?_
 refine yw9 6 (by simp [strB, esC, c1a, c1b]; rfl) rfl ?_
 refine yw9 6 (by simp [strB, esC, c1a, c1b]; rfl) rfl ?_
 refine yw9 6 (by simp [strB, esC, c1a, c1b]; rfl) rfl ?_
 refine yw9 6 (by simp [strB, esC, c1a, c1b]; rfl) rfl ?_
 refine yw9 6 (by simp [strB, esC, c1a, c1b]; rfl) rfl ?_
 refine yw9 1 (by simp [strB, esC, c1a, c1b]; rfl) rfl ?_
 refine yv9 (by simp [c1a, c1b]; rfl) ?_
 refine zr9 ?_
 repeat (first | refine yl9 ?_ | refine yc9 ?_)
 exact xr9 7 (by simp [resA]; rfl) (by simp) (by simp) (by simp [AV.under, AV.underL, yg9, AObj.under, hob, zc9, zv9, esC, strB]) (by simp [esC, strB, rule1, c1a, c1b])
theorem clos107_callW (S : List (Int × Esd)) (N : List (List UInt8 × Int)) (nx : Int) (ob : List AV) (x : Esd) (hob : AV.underL 7 ob = true) (hx : x.name.length ≤ 9223372036854775807) : wn9 Try.prog 107 [esA x] (HQ S N nx ob x) fun v h => v = .v (.bool (rule2 x)) ∧ h = HQ S N nx ob x := by
 refine zk9 Try.func107 rfl (by decide +kernel) (by simp [Try.f107]) (rs := [.tmp 2]) rfl ?_
 rw [show Try.f107.ntmps = 11 from rfl]
 have hsym := symbol_sound x.name (by omega)
 simp only [strB] at hsym
 refine yt9 [1] (by simp; rfl) ?_
 by_cases c1 : x.len = 0
 ·have c1a : x.len = 0 := c1
  refine W_rK [2] ?_
  refine yq9 6 (by simp [strB, esC, c1a]; rfl) rfl ?_
  refine yj9 (by simp) (by first | (simp; done) | (simp; rfl)) hsym (by simp; rfl) ?_
  refine yr9 (by simp [c1a]; rfl) ?_
  refine zr9 ?_
  repeat (first | refine yl9 ?_ | refine yc9 ?_)
  exact xr9 7 (by simp [resA]; rfl) (by simp) (by simp) (by simp [AV.under, AV.underL, yg9, AObj.under, hob, zc9, zv9, esC, strB]) (by simp [esC, strB, rule2, c1a])
 have c1a : ¬ x.len = 0 := c1
 have c1b : (x.len == 0) = false := beq_eq_false_iff_ne.2 c1
 refine W_rK [2] ?_
 refine yq9 6 (by simp [strB, esC, c1a, c1b]; rfl) rfl ?_
 refine yr9 (by simp [c1a, c1b]; rfl) ?_
 refine zr9 ?_
 repeat (first | refine yl9 ?_ | refine yc9 ?_)
 exact xr9 7 (by simp [resA]; rfl) (by simp) (by simp) (by simp [AV.under, AV.underL, yg9, AObj.under, hob, zc9, zv9, esC, strB]) (by simp [esC, strB, rule2, c1a, c1b])
theorem clos108_callW (S : List (Int × Esd)) (N : List (List UInt8 × Int)) (nx : Int) (ob : List AV) (x : Esd) (hob : AV.underL 7 ob = true) (hx : x.name.length ≤ 9223372036854775807) : wn9 Try.prog 108 [esA x, .loc 4 0] (HQ S N nx ob x) fun v h => v = .v (.bool (rule3 nx x)) ∧ h = HQ S N nx ob x := by
 refine zk9 Try.func108 rfl (by decide +kernel) (by simp [Try.f108]) (rs := [.tmp 3]) rfl ?_
 rw [show Try.f108.ntmps = 26 from rfl]
 have hsym := symbol_sound x.name (by omega)
 simp only [strB] at hsym
 refine yt9 [1, 2] (by simp; rfl) ?_
 by_cases c1 : x.id = nx
 ·have c1a : x.id = nx := c1
  by_cases c2 : x.addr = 0
  ·have c2a : x.addr = 0 := c2
   by_cases c3 : x.len = 0
   ·have c3a : x.len = 0 := c3
    refine W_rdK [3] mx (by decide +kernel) ?_
    refine yw9 6 (by simp [strB, esC, c1a, c2a, c3a]; rfl) rfl ?_
    refine yw9 6 (by simp [strB, esC, c1a, c2a, c3a]; rfl) rfl ?_
    refine yw9 6 (by simp [strB, esC, c1a, c2a, c3a]; rfl) rfl ?_
    refine yw9 2 (by simp [strB, esC, c1a, c2a, c3a]; rfl) rfl ?_
    refine yb9 (by simp) (by first | (simp; done) | (simp; rfl)) hsym (by simp; rfl) ?_
    refine yv9 (by simp [c1a, c2a, c3a]; rfl) ?_
    refine zr9 ?_
    repeat (first | refine yl9 ?_ | refine yc9 ?_)
    exact xr9 7 (by simp [resA]; rfl) (by simp) (by simp) (by simp [AV.under, AV.underL, yg9, AObj.under, hob, zc9, zv9, esC, strB]) (by simp [esC, strB, rule3, c1a, c2a, c3a])
   have c3a : ¬ x.len = 0 := c3
   have c3b : (x.len == 0) = false := beq_eq_false_iff_ne.2 c3
   refine W_rdK [3] mx (by decide +kernel) ?_
   refine yw9 6 (by simp [strB, esC, c1a, c2a, c3a, c3b]; rfl) rfl ?_
   refine yw9 6 (by simp [strB, esC, c1a, c2a, c3a, c3b]; rfl) rfl ?_
   refine yw9 6 (by simp [strB, esC, c1a, c2a, c3a, c3b]; rfl) rfl ?_
   refine yw9 2 (by simp [strB, esC, c1a, c2a, c3a, c3b]; rfl) rfl ?_
   refine yv9 (by simp [c1a, c2a, c3a, c3b]; rfl) ?_
   refine zr9 ?_
   repeat (first | refine yl9 ?_ | refine yc9 ?_)
   exact xr9 7 (by simp [resA]; rfl) (by simp) (by simp) (by simp [AV.under, AV.underL, yg9, AObj.under, hob, zc9, zv9, esC, strB]) (by simp [esC, strB, rule3, c1a, c2a, c3a, c3b])
  have c2a : ¬ x.addr = 0 := c2
  have c2b : (x.addr == 0) = false := beq_eq_false_iff_ne.2 c2
  refine W_rdK [3] mx (by decide +kernel) ?_
  refine yw9 6 (by simp [strB, esC, c1a, c2a, c2b]; rfl) rfl ?_
  refine yw9 6 (by simp [strB, esC, c1a, c2a, c2b]; rfl) rfl ?_
  refine yw9 6 (by simp [strB, esC, c1a, c2a, c2b]; rfl) rfl ?_
  refine yw9 2 (by simp [strB, esC, c1a, c2a, c2b]; rfl) rfl ?_
  refine yv9 (by simp [c1a, c2a, c2b]; rfl) ?_
  refine zr9 ?_
  repeat (first | refine yl9 ?_ | refine yc9 ?_)
  exact xr9 7 (by simp [resA]; rfl) (by simp) (by simp) (by simp [AV.under, AV.underL, yg9, AObj.under, hob, zc9, zv9, esC, strB]) (by simp [esC, strB, rule3, c1a, c2a, c2b])
 have c1a : ¬ x.id = nx := c1
 have c1b : (x.id == nx) = false := beq_eq_false_iff_ne.2 c1
 refine W_rdK [3] mx (by decide +kernel) ?_
 refine yw9 6 (by simp [strB, esC, c1a, c1b]; rfl) rfl ?_
 refine yw9 6 (by simp [strB, esC, c1a, c1b]; rfl) rfl ?_
 refine yw9 6 (by simp [strB, esC, c1a, c1b]; rfl) rfl ?_
 refine yw9 2 (by simp [strB, esC, c1a, c1b]; rfl) rfl ?_
 refine yv9 (by simp [c1a, c1b]; rfl) ?_
 refine zr9 ?_
 repeat (first | refine yl9 ?_ | refine yc9 ?_)
 exact xr9 7 (by simp [resA]; rfl) (by simp) (by simp) (by simp [AV.under, AV.underL, yg9, AObj.under, hob, zc9, zv9, esC, strB]) (by simp [esC, strB, rule3, c1a, c1b])
theorem rules_callW (S : List (Int × Esd)) (N : List (List UInt8 × Int)) (nx : Int) (ob : List AV) (hob : AV.underL 5 ob = true) : wn9 Try.prog 94 [.loc 3 0] (HC S N nx ob []) fun v h => v = .agg arrC ∧ h = HC S N nx ob [.cells 131 [.loc 3 0]] := by
 refine zk9 Try.func94 rfl (by decide +kernel) (by simp [Try.f94]) (rs := [.cell 2 165]) rfl ?_
 rw [show Try.f94.ntmps = 6 from rfl]
 refine yt9 [1, 2] (by simp; rfl) ?_
 refine yt9 [2] (by simp [ys9]; rfl) ?_
 refine zr9 ?_
 repeat (first | refine yl9 ?_ | refine yc9 ?_)
 exact xr9 5 (by simp [resA]; rfl) (by simp) (by simp) (by simp [AV.under, AV.underL, yg9, AObj.under, hob, zc9, zv9]) (by simp)
end Go.AM
namespace Go.AM
open Go.RowKit Go.Proofs
set_option linter.unusedSimpArgs false
set_option linter.unusedVariables false
set_option maxHeartbeats 4000000
def esL (l : List Esd) : List AV := l.map esA
@[simp] theorem esL_length (l : List Esd) : (esL l).length = l.length := by simp [esL]
@[simp] theorem esL_getElem (l : List Esd) (i : Nat) (h : i < (esL l).length) : (esL l)[i] = esA (l[i]'(by simpa using h)) := by simp [esL]
@[simp] theorem dpL_esL (l : List Esd) : AV.dpL (esL l) = esL l := by induction l <;> simp_all [esL, AV.dpL, AV.dp, strB]
def xf8 (nx : Int) (x : Esd) : Bool := if x.kind = 1 then rule1 nx x else if x.kind = 2 then rule2 x else if x.kind = 3 then rule3 nx x else false
def dupM (N : List (List UInt8 × Int)) (x : Esd) : Bool := (getN x.name N).isSome && !(x.name == [])
def S1 (S : List (Int × Esd)) (x : Esd) : List (Int × Esd) := if x.kind = 1 then updS x.id x S else S
def N1 (N : List (List UInt8 × Int)) (x : Esd) : List (List UInt8 × Int) := updN x.name x.kind N
def nx1 (nx : Int) (x : Esd) : Int := if x.kind = 2 then nx else nx + 1
def zw8 : List Esd → List (Int × Esd) → List (List UInt8 × Int) → Int → Option (List (Int × Esd) × List (List UInt8 × Int) × Int)
 | [], S, N, nx => some (S, N, nx)
 | x :: l, S, N, nx => if xf8 nx x = true then (if dupM N x = true then none else zw8 l (S1 S x) (N1 N x) (nx1 nx x)) else none
def ent1 (S : List (Int × Esd)) (x : Esd) : Bool := !decide (x.kind = 2) || liesM S x.id x.addr 0
theorem getS_updS (i j : Int) (x : Esd) : ∀ S : List (Int × Esd), getS i (updS j x S) = if i = j then some x else getS i S
 | [] => by simp only [updS, getS]
 | (k, y) :: S => by
  simp only [updS]
  by_cases h : j = k
  ·subst h
   rw [if_pos rfl]
   simp only [getS]
   by_cases h2 : i = j
   ·simp [h2]
   ·simp [h2]
  ·rw [if_neg h]
   simp only [getS, getS_updS i j x S]
   by_cases h2 : i = k
   ·subst h2
    rw [if_pos rfl, if_neg (fun e => h e.symm), if_pos rfl]
   ·rw [if_neg h2]
    by_cases h3 : i = j
    ·simp [h3]
    ·simp [h3, h2]
theorem SOk_S1 {S : List (Int × Esd)} {nx : Int} {x : Esd} (hS : SOk S) (hr : xf8 nx x = true) : SOk (S1 S x) := by
 intro i y h
 unfold S1 at h
 split at h
 ·rename_i hk
  rw [getS_updS] at h
  split at h
  ·cases h
   rw [xf8, if_pos hk] at hr
   simp only [rule1, Bool.and_eq_true, decide_eq_true_eq] at hr
   exact ⟨hr.2.1, hr.2.2.2.1, hr.2.2.1, by omega⟩
  ·exact hS i y h
 ·exact hS i y h
def esdB (l : List Esd) : Option (List (Int × Esd) × List (List UInt8 × Int) × Int) → Bool
 | none => false
 | some (S, _, _) => l.all (ent1 S) && decide (0 < S.length)
theorem esds_callW (l : List Esd) (ob : List AV) (hob : AV.underL 4 ob = true) (hl : l.length ≤ 2048) (hx : ∀ x ∈ l, x.name.length ≤ 9223372036854775807 ∧ i64r x.addr) :
  wn9 Try.prog 67 [.loc 3 0, .lst .any 5 (esL l)] (HC [] [] 1 ob []) fun v h => ∃ S N nx, h = HC S N nx ob [] ∧ v = .v (.bool (esdB l (zw8 l [] [] 1))) ∧ SOk S ∧ 1 ≤ nx ∧ nx ≤ 3000 ∧ (esdB l (zw8 l [] [] 1) = true → zw8 l [] [] 1 = some (S, N, nx)) := by
 refine zk9 Try.func67 rfl (by decide +kernel) (by simp [Try.f67]) (rs := [.tmp 4]) rfl ?_
 rw [show Try.f67.ntmps = 107 from rfl]
 have hob7 : AV.underL 7 ob = true := AV.underL_le (by omega) _ hob
 have hob5 : AV.underL 5 ob = true := AV.underL_le (by omega) _ hob
 have hob6 : AV.underL 6 ob = true := AV.underL_le (by omega) _ hob
 refine yt9 [0, 1] (by simp; rfl) ?_
 refine W_rK [0, 1, 5] ?_
 refine yq9 1 (by simp; rfl) rfl ?_
 refine zg9 (f := 94) (args := [.loc 3 0]) (by simp) (by simp [zp9, zf9]) ((rules_callW [] [] 1 ob hob5).mono ?_)
 rintro _ _ ⟨rfl, rfl⟩
 refine ⟨_, by simp; rfl, ?_⟩
 refine yr9 (by simp [ys9]; rfl) ?_
 obtain ⟨G, hG⟩ : ∃ G, zw8 l [] [] 1 = G := ⟨_, rfl⟩
 rw [hG]
 refine ws9 (fun σ => ∃ S N nx, G = some (S, N, nx) ∧ SOk S ∧ 1 ≤ nx ∧ nx ≤ 3000 ∧ σ = ⟨107, [(0, .loc 3 0), (1, .lst .any 5 (esL l))], HC S N nx ob [.cells 131 [.loc 3 0], .cells 165 arrC]⟩) ?_ ?_
 ·refine yt9 [0, 1, 5, 14, 15, 16] (by simp; rfl) ?_
  refine yf9 ?_
  refine zn9 (fun k σ => ∃ (i : Nat) (S : List (Int × Esd)) (N : List (List UInt8 × Int)) (nx : Int), k = l.length - i ∧ i ≤ l.length ∧ zw8 (l.drop i) S N nx = G ∧ SOk S ∧ 1 ≤ nx ∧ nx ≤ 1 + i ∧ σ = ⟨107, [(0, .loc 3 0), (1, .lst .any 5 (esL l)), (5, .loc 5 0), (14, .lst .any 5 (esL l)), (15, .v (.int .i64 (l.length : Nat))), (16, .v (.int .i64 (i : Nat)))], HC S N nx ob [.cells 131 [.loc 3 0], .cells 165 arrC]⟩) (k := l.length) ⟨0, [], [], 1, rfl, by omega, hG, fun i x h => by simp [getS] at h, by omega, by omega, by simp [secE, namE]⟩ ?_
  rintro k σ ⟨i, S, N, nx, rfl, hi, hgo, hS, hn1, hn2, rfl⟩
  by_cases c : i < l.length
  ·have ci : (i : Int) < l.length := by omega
   obtain ⟨x, hs⟩ : ∃ x, l[i]? = some x := ⟨_, List.getElem?_eq_getElem c⟩
   have hs2 : l[i]'c = x := by rw [List.getElem?_eq_getElem c] at hs; exact Option.some.inj hs
   have hdr : l.drop i = x :: l.drop (i + 1) := by rw [List.drop_eq_getElem_cons c, hs2]
   obtain ⟨hxn, hxa⟩ := hx x (List.mem_of_getElem? hs)
   have wi := w64 (n := (i : Int) + 1) (by omega) (by omega)
   have wn := w64 (n := nx + 1) (by omega) (by omega)
   rw [hdr, zw8] at hgo
   refine yt9 [0, 1, 5, 14, 15, 16, 17] (by simp [ci]; rfl) ?_
   refine yk9 ?_
   refine yd9 rfl (fun h => ?_) (fun h => by simp [c] at h)
   refine yh9 ?_
   refine yk9 ?_
   refine yf9 ?_
   refine yt9 [0, 1, 5, 14, 15, 16, 7] (by simp [c, ci, hs2, ys9]; rfl) ?_
   refine yk9 ?_
   refine xg9 (fun σ => σ = ⟨107, [(0, .loc 3 0), (1, .lst .any 5 (esL l)), (5, .loc 5 0), (14, .lst .any 5 (esL l)), (15, .v (.int .i64 (l.length : Nat))), (16, .v (.int .i64 (i : Nat))), (7, .loc 6 0), (36, .v (.bool (!xf8 nx x)))], HC S N nx ob [.cells 131 [.loc 3 0], .cells 165 arrC, .cells 78 (esC x)]⟩) ?_ ?_
   ·have h105 := clos105_callW S N nx ob x hob7 (by omega)
    have h107 := clos107_callW S N nx ob x hob7 (by omega)
    have h108 := clos108_callW S N nx ob x hob7 (by omega)
    obtain ⟨nm, kd, id, ad, ln⟩ := x
    by_cases k1 : kd = 1
    ·subst k1
     refine W_rsE 14 [0, 1, 5, 14, 15, 16, 7, 36] mx (by decide +kernel) ?_
     refine yw9 6 (by simp; rfl) rfl ?_
     refine yw9 8 (by simp [strB]; rfl) rfl ?_
     refine zg9 (f := 105) (args := [esA ⟨nm, 1, id, ad, ln⟩, .loc 4 0]) (by simp) (by simp [zp9, zf9, strB]) (h105.mono ?_)
     rintro _ _ ⟨rfl, rfl⟩
     refine ⟨_, by simp; rfl, ?_⟩
     refine yr9 (by simp; rfl) ?_
     simp [yp9, xf8, esC, strB]
    by_cases k2 : kd = 2
    ·subst k2
     refine W_rsE 14 [0, 1, 5, 14, 15, 16, 7, 36] mx (by decide +kernel) ?_
     refine yw9 6 (by simp; rfl) rfl ?_
     refine yw9 8 (by simp [strB]; rfl) rfl ?_
     refine zg9 (f := 107) (args := [esA ⟨nm, 2, id, ad, ln⟩]) (by simp) (by simp [zp9, zf9, strB]) (h107.mono ?_)
     rintro _ _ ⟨rfl, rfl⟩
     refine ⟨_, by simp; rfl, ?_⟩
     refine yr9 (by simp; rfl) ?_
     simp [yp9, xf8, esC, strB]
    by_cases k3 : kd = 3
    ·subst k3
     refine W_rsE 14 [0, 1, 5, 14, 15, 16, 7, 36] mx (by decide +kernel) ?_
     refine yw9 6 (by simp; rfl) rfl ?_
     refine yw9 8 (by simp [strB]; rfl) rfl ?_
     refine zg9 (f := 108) (args := [esA ⟨nm, 3, id, ad, ln⟩, .loc 4 0]) (by simp) (by simp [zp9, zf9, strB]) (h108.mono ?_)
     rintro _ _ ⟨rfl, rfl⟩
     refine ⟨_, by simp; rfl, ?_⟩
     refine yr9 (by simp; rfl) ?_
     simp [yp9, xf8, esC, strB]
    by_cases k4 : kd < 1
    ·refine W_rsE 14 [0, 1, 5, 14, 15, 16, 7, 36] mx (by decide +kernel) ?_
     refine yw9 6 (by simp [k4]; rfl) rfl ?_
     refine yw9 8 (by simp [strB, k4]; rfl) rfl ?_
     refine yr9 (by simp; rfl) ?_
     simp [yp9, xf8, esC, strB, k1, k2, k3]
    have k5 : 3 < kd := by omega
    refine W_rsE 14 [0, 1, 5, 14, 15, 16, 7, 36] mx (by decide +kernel) ?_
    refine yw9 6 (by simp [k4, k5]; rfl) rfl ?_
    refine yw9 8 (by simp [strB, k4, k5]; rfl) rfl ?_
    refine yr9 (by simp; rfl) ?_
    simp [yp9, xf8, esC, strB, k1, k2, k3]
   rintro _ rfl
   by_cases hr : xf8 nx x = true
   rotate_left
   ·rw [if_neg hr] at hgo
    refine yd9 (t := true) (by simp [hr]) (fun h => ?_) (fun h => by simp at h)
    refine yt9 [4] (by simp; rfl) ?_
    refine zr9 ?_
    repeat (first | refine yl9 ?_ | refine yc9 ?_)
    refine xr9 4 (by simp [resA]; rfl) (by simp) (by simp) (by simp [AV.under, AV.underL, yg9, AObj.under, hob, zc9, zv9]) ⟨S, N, nx, rfl, by rw [← hgo]; rfl, hS, hn1, by omega, by rw [← hgo]; intro h; cases h⟩
   rw [if_pos hr] at hgo
   refine yd9 (t := false) (by simp [hr]) (fun h => by simp at h) (fun h => ?_)
   refine yh9 ?_
   refine yk9 ?_
   refine xg9 (fun σ => σ = ⟨107, [(0, .loc 3 0), (1, .lst .any 5 (esL l)), (5, .loc 5 0), (14, .lst .any 5 (esL l)), (15, .v (.int .i64 (l.length : Nat))), (16, .v (.int .i64 (i : Nat))), (7, .loc 6 0), (9, .v (.bool (getN x.name N).isSome))], HC S N nx ob [.cells 131 [.loc 3 0], .cells 165 arrC, .cells 78 (esC x)]⟩) ?_ ?_
   ·have hf := mfind_namE x.name N
    cases hg : getN x.name N with
    | none =>
     rw [hg] at hf
     refine wq9 [0, 1, 5, 14, 15, 16, 7, 9] (W_drawP 6 mx (by decide +kernel) ?_)
     refine yv9 (by simp [esC, strB]; rfl) ?_
     refine vc9 [6] (by decide +kernel) (by simp) ?_
     intro i hi
     simp only [List.mem_cons, List.not_mem_nil, or_false] at hi
     subst hi
     refine ⟨_, rfl, ?_⟩
     refine (show runA Try.prog _ [_] _ _ from ?_)
     refine yr9 (by simp [xd8, mapOf, zf7, hf]; rfl) ?_
     refine xj9 7 rfl (by decide +kernel) (yp8 44 rfl rfl rfl) rfl ?_
     refine xj9 8 rfl (by decide +kernel) (wb9 37 rfl rfl rfl rfl) rfl ?_
     refine xj9 9 rfl (by decide +kernel) (wb9 37 rfl rfl rfl rfl) rfl ?_
     refine vc9 [10] (by decide +kernel) (by simp) ?_
     intro i hi
     simp only [List.mem_cons, List.not_mem_nil, or_false] at hi
     subst hi
     refine ⟨_, rfl, ?_⟩
     refine (show runA Try.prog _ [_] _ _ from ?_)
     refine yr9 (by simp; rfl) ?_
     refine vc9 [11] (by decide +kernel) (by simp) ?_
     intro i hi
     simp only [List.mem_cons, List.not_mem_nil, or_false] at hi
     subst hi
     refine ⟨_, rfl, ?_⟩
     refine (show runA Try.prog _ [_] _ _ from ?_)
     refine yr9 (by simp; rfl) ?_
     refine yk8 (by decide +kernel) ?_
     simp [yp9, esC, strB, zh8]
    | some k =>
     rw [hg] at hf
     refine wq9 [0, 1, 5, 14, 15, 16, 7, 9] (W_drawP 6 mx (by decide +kernel) ?_)
     refine yv9 (by simp [esC, strB]; rfl) ?_
     refine vc9 [6] (by decide +kernel) (by simp) ?_
     intro i hi
     simp only [List.mem_cons, List.not_mem_nil, or_false] at hi
     subst hi
     refine ⟨_, rfl, ?_⟩
     refine (show runA Try.prog _ [_] _ _ from ?_)
     refine yr9 (by simp [xd8, mapOf, zf7, hf]; rfl) ?_
     refine xj9 7 rfl (by decide +kernel) (yp8 44 rfl rfl rfl) rfl ?_
     refine xj9 8 rfl (by decide +kernel) (wb9 37 rfl rfl rfl rfl) rfl ?_
     refine xj9 9 rfl (by decide +kernel) (wb9 37 rfl rfl rfl rfl) rfl ?_
     refine vc9 [10] (by decide +kernel) (by simp) ?_
     intro i hi
     simp only [List.mem_cons, List.not_mem_nil, or_false] at hi
     subst hi
     refine ⟨_, rfl, ?_⟩
     refine (show runA Try.prog _ [_] _ _ from ?_)
     refine yr9 (by simp; rfl) ?_
     refine vc9 [11] (by decide +kernel) (by simp) ?_
     intro i hi
     simp only [List.mem_cons, List.not_mem_nil, or_false] at hi
     subst hi
     refine ⟨_, rfl, ?_⟩
     refine (show runA Try.prog _ [_] _ _ from ?_)
     refine yr9 (by simp; rfl) ?_
     refine yk8 (by decide +kernel) ?_
     simp [yp9, esC, strB, zh8]
   rintro _ rfl
   refine xg9 (fun σ => σ = ⟨107, [(0, .loc 3 0), (1, .lst .any 5 (esL l)), (5, .loc 5 0), (14, .lst .any 5 (esL l)), (15, .v (.int .i64 (l.length : Nat))), (16, .v (.int .i64 (i : Nat))), (7, .loc 6 0), (52, .v (.bool (dupM N x)))], HC S N nx ob [.cells 131 [.loc 3 0], .cells 165 arrC, .cells 78 (esC x)]⟩) ?_ ?_
   ·cases hg : (getN x.name N).isSome with
    | false =>
     refine zs9 [0, 1, 5, 14, 15, 16, 7, 52] (by simp; rfl) ?_
     simp [yp9, dupM, hg]
    | true =>
     refine zs9 [0, 1, 5, 14, 15, 16, 7, 52] (by simp [esC, strB]; rfl) ?_
     simp [yp9, dupM, hg, esC, strB]
   rintro _ rfl
   by_cases hd : dupM N x = true
   ·rw [if_pos hd] at hgo
    refine yd9 (t := true) (by simp [hd]) (fun h => ?_) (fun h => by simp at h)
    refine yt9 [4] (by simp; rfl) ?_
    refine zr9 ?_
    repeat (first | refine yl9 ?_ | refine yc9 ?_)
    refine xr9 4 (by simp [resA]; rfl) (by simp) (by simp) (by simp [AV.under, AV.underL, yg9, AObj.under, hob, zc9, zv9]) ⟨S, N, nx, rfl, by rw [← hgo]; rfl, hS, hn1, by omega, by rw [← hgo]; intro h; cases h⟩
   rw [if_neg hd] at hgo
   refine yd9 (t := false) (by simp [hd]) (fun h => by simp at h) (fun h => ?_)
   refine yh9 ?_
   have hset := mset_namE x.name x.kind N
   have hset2 := mset_secE x.id x S
   refine xg9 (fun σ => σ = ⟨107, [(0, .loc 3 0), (1, .lst .any 5 (esL l)), (5, .loc 5 0), (14, .lst .any 5 (esL l)), (15, .v (.int .i64 (l.length : Nat))), (16, .v (.int .i64 (i : Nat))), (7, .loc 6 0)], HC S (N1 N x) nx ob [.cells 131 [.loc 3 0], .cells 165 arrC, .cells 78 (esC x)]⟩) ?_ ?_
   ·refine W_rsE 8 [0, 1, 5, 14, 15, 16, 7] mx (by decide +kernel) ?_
    refine yv9 (by simp [esC, strB]; rfl) ?_
    refine yr9 (by simp [xw8, zf7, hset, AV.weak]; rfl) ?_
    simp [yp9, esC, strB, N1]
   rintro _ rfl
   refine xg9 (fun σ => σ = ⟨107, [(0, .loc 3 0), (1, .lst .any 5 (esL l)), (5, .loc 5 0), (14, .lst .any 5 (esL l)), (15, .v (.int .i64 (l.length : Nat))), (16, .v (.int .i64 (i : Nat))), (7, .loc 6 0)], HC (S1 S x) (N1 N x) nx ob [.cells 131 [.loc 3 0], .cells 165 arrC, .cells 78 (esC x)]⟩) ?_ ?_
   ·by_cases hk : x.kind = 1
    ·simp only [esA, hk, strB] at hset2
     refine W_cT [0, 1, 5, 14, 15, 16, 7, 63] (by simp [esC, strB, hk]; rfl) rfl ?_
     refine W_rsE 7 [0, 1, 5, 14, 15, 16, 7] mx (by decide +kernel) ?_
     refine yv9 (by simp [esC, strB]; rfl) ?_
     refine yr9 (by simp [xw8, zf7, hset2, AV.weak, AV.weakL]; rfl) ?_
     simp [yp9, esC, strB, S1, hk]
    ·refine yt9 [0, 1, 5, 14, 15, 16, 7, 63] (by simp [esC, strB, hk]; rfl) ?_
     refine yd9 rfl (fun h => absurd (by simpa using h) hk) (fun h => ?_)
     refine zt9 [0, 1, 5, 14, 15, 16, 7] ?_
     refine yh9 ?_
     simp [yp9, esC, strB, S1, hk]
   rintro _ rfl
   have hbd : 1 ≤ nx1 nx x ∧ nx1 nx x ≤ 1 + ((i + 1 : Nat) : Int) := by
    unfold nx1
    split <;> omega
   refine W_thenC (fun σ => σ = ⟨107, [(0, .loc 3 0), (1, .lst .any 5 (esL l)), (5, .loc 5 0), (14, .lst .any 5 (esL l)), (15, .v (.int .i64 (l.length : Nat))), (16, .v (.int .i64 (i : Nat)))], HC (S1 S x) (N1 N x) (nx1 nx x) ob [.cells 131 [.loc 3 0], .cells 165 arrC, .cells 78 (esC x)]⟩) ?_ ?_
   ·by_cases hk : x.kind = 2
    ·refine W_cF [0, 1, 5, 14, 15, 16, 73] (by simp [esC, strB, hk]; rfl) rfl ?_
     refine zt9 [0, 1, 5, 14, 15, 16] ?_
     refine yh9 ?_
     simp [yp9, esC, strB, nx1, hk]
    ·refine yt9 [0, 1, 5, 14, 15, 16, 73] (by simp [esC, strB, hk]; rfl) ?_
     refine yd9 rfl (fun h => ?_) (fun h => absurd (by simpa using h) hk)
     refine zs9 [0, 1, 5, 14, 15, 16] (by simp [wn, ys9]; rfl) ?_
     simp [yp9, esC, strB, nx1, hk]
   rintro _ rfl
   refine xd9 6 (by simp) (by simp) (by simp [yn9, AV.under, AV.underL]) (by simp [yg9, AObj.under, AV.under, AV.underL, hob6, zc9, zv9]) ?_
   refine zs9 [0, 1, 5, 14, 15, 16] (by simp [wi]; rfl) ?_
   exact ⟨_, by omega, i + 1, S1 S x, N1 N x, nx1 nx x, rfl, by omega, hgo, SOk_S1 hS hr, hbd.1, hbd.2, by simp⟩
  have hie : i = l.length := by omega
  rw [hie, List.drop_length, zw8] at hgo
  refine yt9 [0, 1, 5, 14, 15, 16, 17] (by simp [c]; rfl) ?_
  refine yk9 ?_
  refine yd9 rfl (fun h => by simp [hie] at h) (fun h => ?_)
  refine zt9 [0, 1] ?_
  refine zh9 ?_
  simp only [yp9]
  exact ⟨S, N, nx, hgo.symm, hS, hn1, by omega, by simp⟩
 rintro _ ⟨S, N, nx, hGe, hS, hn1, hn2, rfl⟩
 refine xd9 4 (by simp) (by simp) (by simp [yn9, AV.under, AV.underL]) (by simp [yg9, AObj.under, AV.under, AV.underL, hob, zc9, zv9]) ?_
 subst hGe
 refine yk9 ?_
 refine yt9 [0, 82, 83, 84] (by simp; rfl) ?_
 refine yf9 ?_
 refine zn9 (fun k σ => ∃ (i : Nat), k = l.length - i ∧ i ≤ l.length ∧ l.all (ent1 S) = (l.drop i).all (ent1 S) ∧ σ = ⟨107, [(0, .loc 3 0), (82, .lst .any 5 (esL l)), (83, .v (.int .i64 (l.length : Nat))), (84, .v (.int .i64 (i : Nat)))], HC S N nx ob []⟩) (k := l.length) ⟨0, rfl, by omega, by simp, by simp⟩ ?_
 rintro k σ ⟨i, rfl, hi, hall, rfl⟩
 by_cases c : i < l.length
 ·have ci : (i : Int) < l.length := by omega
  obtain ⟨x, hs⟩ : ∃ x, l[i]? = some x := ⟨_, List.getElem?_eq_getElem c⟩
  have hs2 : l[i]'c = x := by rw [List.getElem?_eq_getElem c] at hs; exact Option.some.inj hs
  have hdr : l.drop i = x :: l.drop (i + 1) := by rw [List.drop_eq_getElem_cons c, hs2]
  obtain ⟨hxn, hxa⟩ := hx x (List.mem_of_getElem? hs)
  have wi := w64 (n := (i : Int) + 1) (by omega) (by omega)
  rw [hdr, List.all_cons] at hall
  refine yt9 [0, 82, 83, 84, 85] (by simp [ci]; rfl) ?_
  refine yk9 ?_
  refine yd9 rfl (fun h => ?_) (fun h => by simp [c] at h)
  refine yh9 ?_
  refine yk9 ?_
  refine yf9 ?_
  refine yt9 [0, 82, 83, 84, 11] (by simp [c, ci, hs2, ys9]; rfl) ?_
  refine xg9 (fun σ => σ = ⟨107, [(0, .loc 3 0), (82, .lst .any 5 (esL l)), (83, .v (.int .i64 (l.length : Nat))), (84, .v (.int .i64 (i : Nat))), (99, .v (.bool (!ent1 S x)))], HC S N nx ob [.cells 78 (esC x)]⟩) ?_ ?_
  ·have hlies := lies_callW S N nx ob 78 (esC x) x.id x.addr 0 hS hxa hob5 (by simp [esC, strB, AV.underL, AV.under])
   by_cases hk : x.kind = 2
   ·refine W_rE [0, 82, 83, 84, 99] ?_
    refine yq9 6 (by simp [hk]; rfl) rfl ?_
    refine yq9 3 (by simp; rfl) rfl ?_
    simp only [esC, hk] at hlies
    refine zg9 (f := 68) (args := [.loc 3 0, .v (.int .i64 x.id), .v (.int .i64 x.addr), .v (.int .i64 0)]) (by simp) (by simp [zp9, zf9]) (hlies.mono ?_)
    rintro _ _ ⟨rfl, rfl⟩
    refine ⟨_, by simp; rfl, ?_⟩
    refine yr9 (by simp; rfl) ?_
    simp [yp9, esC, ent1, hk, strB, AV.weak]
   ·have hkb : (x.kind == 2) = false := by simpa using hk
    refine W_rE [0, 82, 83, 84, 99] ?_
    refine yq9 6 (by simp [hkb]; rfl) rfl ?_
    refine yr9 (by simp; rfl) ?_
    simp [yp9, esC, ent1, hk, strB, AV.weak]
  rintro _ rfl
  by_cases he : ent1 S x = true
  rotate_left
  ·have hef : ent1 S x = false := by simpa using he
   refine yd9 (t := true) (by simp [hef]) (fun h => ?_) (fun h => by simp at h)
   refine yt9 [4] (by simp; rfl) ?_
   refine zr9 ?_
   repeat (first | refine yl9 ?_ | refine yc9 ?_)
   refine xr9 4 (by simp [resA]; rfl) (by simp) (by simp) (by simp [AV.under, AV.underL, yg9, AObj.under, hob, zc9, zv9]) ⟨S, N, nx, rfl, by simp [esdB, hall, hef], hS, hn1, hn2, by simp [esdB, hall, hef]⟩
  refine yd9 (t := false) (by simp [he]) (fun h => by simp at h) (fun h => ?_)
  refine yh9 ?_
  refine xd9 4 (by simp) (by simp) (by simp [yn9, AV.under, AV.underL]) (by simp [yg9, AObj.under, AV.under, AV.underL, hob, zc9, zv9]) ?_
  refine zs9 [0, 82, 83, 84] (by simp [wi]; rfl) ?_
  exact ⟨_, by omega, i + 1, rfl, by omega, by rw [hall, he, Bool.true_and], by simp⟩
 have hie : i = l.length := by omega
 rw [hie, List.drop_length, List.all_nil] at hall
 refine yt9 [0, 82, 83, 84, 85] (by simp [c]; rfl) ?_
 refine yk9 ?_
 refine yd9 rfl (fun h => by simp [hie] at h) (fun h => ?_)
 refine zh9 ?_
 have hsl : (secE S).length = S.length := by simp [secE]
 refine W_rGK [4] ?_
 refine runG_A 4 _ _ ?_
 refine yr9 (by simp; rfl) ?_
 refine runG_W rfl ?_
 refine stepW_mapLen (k := 104) (t := 132) (m := .mp 1) (d := .int .i64) (e := 78) (es := secE S) rfl rfl rfl rfl (by simp) (by simp) (by simp [mapOf]) ?_
 refine ⟨_, by simp; rfl, ?_⟩
 rw [hsl]
 refine runG_A 2 _ _ ?_
 refine yr9 (by simp; rfl) ?_
 refine zr9 ?_
 repeat (first | refine yl9 ?_ | refine yc9 ?_)
 exact xr9 4 (by simp [resA]; rfl) (by simp) (by simp) (by simp [AV.under, AV.underL, yg9, AObj.under, hob, zc9, zv9]) ⟨S, N, nx, rfl, by simp [esdB, hall], hS, hn1, hn2, fun _ => rfl⟩
end Go.AM
