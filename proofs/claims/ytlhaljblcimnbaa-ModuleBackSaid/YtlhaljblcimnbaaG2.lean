/- Parts of the walk: C31H C31I C31J P38A C31K C31L C31M. -/
import Derived.Test.YtlhaljblcimnbaaG1
namespace Go.AM
open Go.RowKit Go.Proofs
set_option linter.unusedSimpArgs false
set_option linter.unusedVariables false
set_option maxHeartbeats 4000000
def cdM (b : UInt8) : UInt8 × Bool := if b.toNat < 32 ∨ 126 < b.toNat then (0, false) else (zc7.getD (b.toNat - 32) 0, true)
theorem code112_sound (b : UInt8) : Sound Try.prog 112 [.v (.int .u8 b.toNat)] (.tup [.v (.int .u8 (cdM b).1.toNat), .v (.bool (cdM b).2)]) := by
 refine zl9 Try.func112 rfl (by decide +kernel) (by simp [Try.f112]) rfl rfl (rs := [.tmp 2, .tmp 3]) rfl ?_
 rw [show Try.f112.ntmps = 13 from rfl]
 refine yt9 [0] (by simp; rfl) ?_
 refine yk9 ?_
 have hlt := b.toNat_lt
 by_cases h1 : b.toNat < 32
 ·have h1' : (b.toNat : Int) < 32 := by omega
  refine W_cT [0, 9] (by simp [h1, h1']; rfl) rfl ?_
  refine yt9 [2, 3] (by simp; rfl) ?_
  refine zr9 ?_
  repeat (first | refine yl9 ?_ | refine yc9 ?_)
  simp [retQ, cdM, h1]
 have h1' : ¬ (b.toNat : Int) < 32 := by omega
 by_cases h2 : 126 < b.toNat
 ·have h2' : (126 : Int) < b.toNat := by omega
  refine W_cT [0, 9] (by simp [h1, h1', h2, h2']; rfl) rfl ?_
  refine yt9 [2, 3] (by simp; rfl) ?_
  refine zr9 ?_
  repeat (first | refine yl9 ?_ | refine yc9 ?_)
  simp [retQ, cdM, h2]
 have h2' : ¬ (126 : Int) < b.toNat := by omega
 have w1 : IntKind.u8.wrap ((b.toNat : Int) - 32) = ((b.toNat - 32 : Nat) : Int) := by
  simp only [IntKind.wrap_u8]
  omega
 refine W_cF [0, 9] (by simp [h1, h1', h2, h2']; rfl) rfl ?_
 refine yh9 ?_
 obtain ⟨k, hk⟩ : ∃ k, b.toNat - 32 = k := ⟨_, rfl⟩
 have hk95 : k < zc7.length := by show k < 95; omega
 have hg : zc7[k]? = some (zc7.getD k 0) := by
  rw [List.getD_eq_getElem?_getD, List.getElem?_eq_getElem hk95]; rfl
 have hM : cdM b = (zc7.getD k 0, true) := by rw [cdM, if_neg (by omega), hk]
 rw [hk] at w1
 rw [hM]
 obtain ⟨cd, hcd⟩ : ∃ cd, zc7.getD k 0 = cd := ⟨_, rfl⟩
 rw [hcd] at hg ⊢
 have hg' := hg
 simp only [zc7] at hg'
 refine yt9 [2, 3] (by simp [w1, -List.append_eq]; rw [hg']; rfl) ?_
 refine zr9 ?_
 repeat (first | refine yl9 ?_ | refine yc9 ?_)
 simp [retQ]
def encOk (l : List UInt8) : Bool := l.all fun b => (cdM b).2
def enc1 (l : List UInt8) : List UInt8 := l.map fun b => (cdM b).1
def encM (l : List UInt8) : List UInt8 × Int := if encOk l then (enc1 l, 0) else ([], 20)
theorem encOk_false {l : List UInt8} {i : Nat} {b : UInt8} (h : l[i]? = some b) (hb : (cdM b).2 = false) : encOk l = false := by
 rw [encOk, List.all_eq_false]
 exact ⟨b, List.mem_of_getElem? h, by simp [hb]⟩
theorem repC_byL31 (n : Nat) : repC n [AV.v (.int .u8 0)] = byL (List.replicate n 0) := by
 induction n with
 | zero => rfl
 | succ n ih => simp only [repC, ih, List.replicate_succ, wt9]; rfl
theorem extend_sound (l : List UInt8) (hl : l.length ≤ 1000000) : Sound Try.prog 102 [strB l, .v (.int .i64 (l.length : Nat))] (.tup [.lst .any 1 (byL (encM l).1), .v (.int .i64 (encM l).2)]) := by
 refine yw8 Try.func102 rfl (by decide +kernel) (by simp [Try.f102]) rfl rfl (rs := [.tmp 4, .tmp 5]) rfl ?_
 rw [show Try.f102.ntmps = 39 from rfl]
 simp only [strB]
 have hm1 : (l.length : Int) ≤ 140737488355328 := by omega
 refine yt9 [0, 1] (by simp; rfl) ?_
 refine yt9 [0, 6] (by simp [repC_byL31, show (l.length : Int) ≤ 281474976710656 by omega, show (l.length : Int) ≤ 9223372036854775807 by omega]; rfl) ?_
 refine yk9 ?_
 refine yt9 [0, 6, 13, 14] (by simp; rfl) ?_
 refine yf9 ?_
 refine zn9 (fun k s => ∃ (i : Nat), k = l.length - i ∧ i ≤ l.length ∧ encOk (l.take i) = true ∧
  s = ⟨39, [(0, .v (.string ⟨l.toArray⟩)), (6, .arr 0 0 l.length l.length), (13, .v (.int .i64 (l.length : Nat))), (14, .v (.int .i64 (i : Nat)))], [.cells 5 (byL (enc1 (l.take i) ++ List.replicate (l.length - i) 0))]⟩) (k := l.length) ⟨0, rfl, by omega, by simp [encOk], by simp [enc1]⟩ ?_
 rintro k s ⟨i, rfl, hi, hok, rfl⟩
 by_cases c : i < l.length
 ·have ci : (i : Int) < l.length := by omega
  obtain ⟨b, hb⟩ : ∃ b, l[i]? = some b := ⟨_, List.getElem?_eq_getElem c⟩
  have hb2 : l[i]'c = b := by rw [List.getElem?_eq_getElem c] at hb; exact Option.some.inj hb
  have wi := w64 (n := (i : Int) + 1) (by omega) (by omega)
  have hnl : ¬ (l.length : Int) ≤ i := by omega
  have hlen : (enc1 (l.take i)).length = i := by simp [enc1]; omega
  have hlen2 : i + 1 ≤ (enc1 (l.take i) ++ List.replicate (l.length - i) (0 : UInt8)).length := by simp [hlen]; omega
  have hset : ∀ (x : UInt8) (y : UInt8), ys9 (ys9 (byL (enc1 (l.take i) ++ List.replicate (l.length - i) 0)) i [.v (.int .u8 x.toNat)]) i [.v (.int .u8 y.toNat)] = byL (enc1 (l.take i) ++ [y] ++ List.replicate (l.length - (i + 1)) 0) := by
   intro x y
   obtain ⟨m, hm⟩ : ∃ m, l.length - i = m + 1 := ⟨l.length - i - 1, by omega⟩
   have hm2 : l.length - (i + 1) = m := by omega
   have hlb : (byL (enc1 (l.take i))).length = i := by simp [hlen]
   rw [hm, hm2, List.replicate_succ]
   have e1 : ∀ (z w : UInt8) (r : List UInt8), ys9 (byL (enc1 (l.take i) ++ z :: r)) i [.v (.int .u8 w.toNat)] = byL (enc1 (l.take i) ++ w :: r) := by
    intro z w r
    have h1 : byL (enc1 (l.take i) ++ z :: r) = byL (enc1 (l.take i)) ++ (.v (.int .u8 z.toNat) :: byL r) := by simp [byL]
    have h2 : byL (enc1 (l.take i) ++ w :: r) = byL (enc1 (l.take i)) ++ (.v (.int .u8 w.toNat) :: byL r) := by simp [byL]
    rw [h1, h2]
    unfold ys9
    rw [List.take_left' hlb, List.drop_append]
    simp [hlb]
   rw [e1, e1]
   simp
  refine yt9 [0, 6, 13, 14, 15] (by simp [c]; rfl) ?_
  refine yk9 ?_
  refine yd9 rfl (fun h => ?_) (fun h => by simp at h)
  refine yh9 ?_
  refine yk9 ?_
  refine yf9 ?_
  refine yt9 [0, 6, 13, 14, 7] (by simp; rfl) ?_
  refine yt9 [0, 6, 13, 14, 7] (by simp [c, ci, hlen, show i + 1 ≤ i + (l.length - i) by omega]; rfl) ?_
  refine yk9 ?_
  refine W_cF [0, 6, 13, 14, 7, 23] (by simp [hnl, show ¬ l.length ≤ i by omega]; rfl) rfl ?_
  refine yh9 ?_
  refine W_rK [0, 6, 13, 14, 7, 8, 9] ?_
  refine yq9 3 (by simp [c, ci, hb, hb2]; rfl) rfl ?_
  refine yj9 (by simp) (by first | (simp; done) | (simp; rfl)) (code112_sound b) (by simp; rfl) ?_
  refine yr9 (by simp; rfl) ?_
  refine yk9 ?_
  cases hcd : (cdM b).2 with
  | false =>
   have hM : encM l = ([], 20) := by rw [encM, encOk_false hb hcd]; rfl
   refine W_cT [0, 6, 13, 14, 7, 8, 32] (by simp [hcd]; rfl) rfl ?_
   refine yt9 [4, 5] (by simp; rfl) ?_
   refine zr9 ?_
   repeat (first | refine yl9 ?_ | refine yc9 ?_)
   exact ⟨_, by simp [retQ]; exact ⟨rfl, by simp⟩, .inr (by simp [hM])⟩
  | true =>
   have htk : encOk (l.take (i + 1)) = true := by
    rw [List.take_add_one, hb, encOk, List.all_append]
    simp only [Option.toList_some, List.all_cons, hcd, List.all_nil, Bool.and_self, Bool.and_true]
    exact hok
   have he : enc1 (l.take (i + 1)) = enc1 (l.take i) ++ [(cdM b).1] := by rw [List.take_add_one, hb]; simp [enc1]
   refine W_cF [0, 6, 13, 14, 7, 8, 32] (by simp [hcd]; rfl) rfl ?_
   refine yh9 ?_
   refine zs9 [0, 6, 13, 14] (by simp [c, ci, hlen, xh9, show i + 1 ≤ i + (l.length - i) by omega]; rfl) ?_
   refine zs9 [0, 6, 13, 14] (by simp [wi]; rfl) ?_
   refine ⟨_, by omega, i + 1, rfl, by omega, htk, ?_⟩
   rw [he]
   have := hset 64 (cdM b).1
   simp at this ⊢
   exact this
 have hie : i = l.length := by omega
 subst hie
 rw [List.take_length] at hok
 have hM : encM l = (enc1 l, 0) := by rw [encM, hok]; rfl
 rw [List.take_length, Nat.sub_self, List.replicate_zero, List.append_nil]
 refine yt9 [0, 6, 13, 14, 15] (by simp; rfl) ?_
 refine yk9 ?_
 refine yd9 rfl (fun h => by simp at h) (fun h => ?_)
 refine zh9 ?_
 have hle : (enc1 l).length = l.length := by simp [enc1]
 refine yt9 [4, 5] (by simp; rfl) ?_
 refine zr9 ?_
 repeat (first | refine yl9 ?_ | refine yc9 ?_)
 exact ⟨_, by simp [retQ, vl9, hle]; exact ⟨rfl, rfl⟩, .inr (by simp [hM, hle, List.take_of_length_le (Nat.le_of_eq hle)])⟩
theorem encode_sound (l : List UInt8) (hl : l.length ≤ 1000000) : Sound Try.prog 86 [strB l] (.tup [.lst .any 1 (byL (encM l).1), .v (.int .i64 (encM l).2)]) := by
 refine yw8 Try.func86 rfl (by decide +kernel) (by simp [Try.f86]) rfl rfl (rs := [.tmp 2, .tmp 3]) rfl ?_
 rw [show Try.f86.ntmps = 10 from rfl]
 have he := extend_sound l hl
 simp only [strB] at he ⊢
 refine yt9 [0] (by simp; rfl) ?_
 refine W_rK [2, 3] ?_
 refine yq9 3 (by simp; rfl) rfl ?_
 refine yj9 (by simp) (by first | (simp; done) | (simp; rfl)) he (by simp; rfl) ?_
 refine yr9 (by simp; rfl) ?_
 refine zr9 ?_
 repeat (first | refine yl9 ?_ | refine yc9 ?_)
 exact ⟨_, by simp [retQ]; exact ⟨rfl, by simp⟩, .inr (by simp)⟩
theorem codeS_sound (l : List UInt8) (hl : l.length ≤ 1000000) : Sound Try.prog 52 [strB l] (.lst .any 1 (byL (encM l).1)) := by
 refine yw8 Try.func52 rfl (by decide +kernel) (by simp [Try.f52]) rfl rfl (rs := [.tmp 2]) rfl ?_
 rw [show Try.f52.ntmps = 11 from rfl]
 have he := encode_sound l hl
 simp only [strB] at he ⊢
 refine yt9 [0] (by simp; rfl) ?_
 refine W_rK [3] ?_
 refine yq9 1 (by simp; rfl) rfl ?_
 refine yj9 (by simp) (by first | (simp; done) | (simp; rfl)) he (by simp; rfl) ?_
 refine yr9 (by simp; rfl) ?_
 refine yt9 [2] (by simp; rfl) ?_
 refine zr9 ?_
 repeat (first | refine yl9 ?_ | refine yc9 ?_)
 exact ⟨_, by simp [retQ]; exact ⟨rfl, by simp⟩, .inr (by simp)⟩
end Go.AM
namespace Go.AM
open Go.RowKit Go.Proofs
set_option linter.unusedSimpArgs false
set_option linter.unusedVariables false
set_option maxHeartbeats 4000000
end Go.AM
namespace Go.AM
open Go.RowKit Go.Proofs
set_option linter.unusedSimpArgs false
set_option linter.unusedVariables false
set_option maxHeartbeats 4000000
def numM : Nat → Nat → List UInt8
 | 0, _ => []
 | n + 1, v => numM n (v / 256) ++ [UInt8.ofNat (v % 256)]
@[simp] theorem vd9 : ∀ (n v : Nat), (numM n v).length = n
 | 0, _ => rfl
 | n + 1, v => by simp [numM, vd9 n]
theorem u8n (n : Nat) : IntKind.u8.wrap (n : Int) = ((UInt8.ofNat (n % 256)).toNat : Nat) := by
 rw [UInt8.toNat_ofNat']
 simp only [IntKind.wrap_u8]
 omega
theorem shr8 (v : Nat) : ((v : Int).fdiv (2 ^ min 8 IntKind.i64.bits)) = ((v / 256 : Nat) : Int) := by
 have : min 8 IntKind.i64.bits = 8 := by decide
 rw [this, Int.fdiv_eq_ediv_of_nonneg _ (by omega)]
 omega
theorem set_num (j : Nat) (tl : List UInt8) (b : UInt8) : ys9 (byL (List.replicate (j + 1) 0 ++ tl)) j [.v (.int .u8 b.toNat)] = byL (List.replicate j 0 ++ b :: tl) := by
 have h1 : byL (List.replicate (j + 1) 0 ++ tl) = byL (List.replicate j 0) ++ (.v (.int .u8 (0 : UInt8).toNat) :: byL tl) := by
  rw [List.replicate_succ']; simp [byL]
 have h2 : byL (List.replicate j 0 ++ b :: tl) = byL (List.replicate j 0) ++ (.v (.int .u8 b.toNat) :: byL tl) := by simp [byL]
 have hl : (byL (List.replicate j 0)).length = j := by simp
 rw [h1, h2]
 unfold ys9
 rw [List.take_left' hl, List.drop_append]
 simp [hl]
theorem yq8 (v n : Nat) (hv : v ≤ 9223372036854775807) (hn : n ≤ 100) : Sound Try.prog 46 [.v (.int .i64 v), .v (.int .i64 n)] (.lst .any 1 (byL (numM n v))) := by
 refine yw8 Try.func46 rfl (by decide +kernel) (by simp [Try.f46]) rfl rfl (rs := [.tmp 4]) rfl ?_
 rw [show Try.f46.ntmps = 23 from rfl]
 have wn : IntKind.i64.wrap ((n : Int) - 1) = (n : Int) - 1 := w64 (by omega) (by omega)
 refine yt9 [0, 1] (by simp; rfl) ?_
 refine yt9 [0, 1, 5] (by simp [repC_byL31, show (n : Int) ≤ 281474976710656 by omega, show (n : Int) ≤ 9223372036854775807 by omega]; rfl) ?_
 refine yk9 ?_
 refine yt9 [0, 5, 6] (by simp [wn]; rfl) ?_
 refine yf9 ?_
 refine zn9 (fun j s => ∃ (w : Nat) (tl : List UInt8), w ≤ 9223372036854775807 ∧ j + tl.length = n ∧ numM n v = numM j w ++ tl ∧
  s = ⟨23, [(0, .v (.int .i64 (w : Nat))), (5, .arr 0 0 n n), (6, .v (.int .i64 ((j : Int) - 1)))], [.cells 5 (byL (List.replicate j 0 ++ tl))]⟩) (k := n) ⟨v, [], hv, by simp, by simp, by simp⟩ ?_
 rintro j s ⟨w, tl, hw, hj, hnum, rfl⟩
 refine yk9 ?_
 cases j with
 | zero =>
  refine W_cF [0, 5, 6, 12] (by simp; rfl) rfl ?_
  refine zh9 ?_
  refine yt9 [4] (by simp; rfl) ?_
  refine zr9 ?_
  repeat (first | refine yl9 ?_ | refine yc9 ?_)
  have htl : tl = numM n v := by rw [hnum]; rfl
  have hle : (numM n v).length = n := vd9 n v
  subst htl
  exact ⟨_, by simp [retQ, vl9]; exact ⟨rfl, rfl⟩, .inr (by simp [List.take_of_length_le (Nat.le_of_eq hle)])⟩
 | succ j =>
  have hjn : j < n := by omega
  have e1 : ((j + 1 : Nat) : Int) - 1 = (j : Int) := by omega
  have hjI : (j : Int) < n := by omega
  have wj : IntKind.i64.wrap ((j : Int) - 1) = (j : Int) - 1 := w64 (by omega) (by omega)
  have hlen : j + 1 ≤ (List.replicate (j + 1) (0 : UInt8) ++ tl).length := by simp
  rw [e1]
  have hsh := shr8 w
  have hu := u8n w
  have hset := set_num j tl (UInt8.ofNat (w % 256))
  obtain ⟨C, hC⟩ : ∃ C, byL (List.replicate (j + 1) (0 : UInt8) ++ tl) = C := ⟨_, rfl⟩
  have hCl : C.length = j + 1 + tl.length := by rw [← hC]; simp
  rw [hC] at hset ⊢
  refine W_cT [0, 5, 6, 12] (by simp; rfl) rfl ?_
  refine yh9 ?_
  refine yk9 ?_
  refine yf9 ?_
  refine yt9 [0, 5, 6] (by simp [hjn, hjI, hu, hCl, show j + 1 ≤ j + 1 + tl.length by omega]; rfl) ?_
  refine zs9 [0, 5, 6] (by simp [hsh, -Int.natCast_ediv]; rfl) ?_
  refine zs9 [0, 5, 6] (by simp [wj]; rfl) ?_
  refine ⟨j, by omega, w / 256, UInt8.ofNat (w % 256) :: tl, by omega, by simp; omega, ?_, ?_⟩
  ·rw [hnum, numM]; simp
  ·have q1 : (w : Int) / 256 = ((w / 256 : Nat) : Int) := by omega
   have q2 : (w : Int) % 256 = ((UInt8.ofNat (w % 256)).toNat : Nat) := by rw [UInt8.toNat_ofNat']; omega
   rw [q1, q2, ← hset]
def valM (l : List UInt8) : Nat := l.foldl (fun v b => v * 256 + b.toNat) 0
theorem valM_snoc (l : List UInt8) (b : UInt8) : valM (l ++ [b]) = valM l * 256 + b.toNat := by simp [valM]
theorem valM_lt : ∀ (n : Nat) (l : List UInt8), l.length = n → valM l < 256 ^ n
 | 0, l, h => by
  have : l = [] := List.length_eq_zero_iff.1 h
  subst this
  simp [valM]
 | n + 1, l, h => by
  have hne : l ≠ [] := by intro e; subst e; simp at h
  have hd := List.dropLast_concat_getLast hne
  have hl : l.dropLast.length = n := by simp [h]
  have ih := valM_lt n l.dropLast hl
  rw [← hd, valM_snoc, Nat.pow_succ]
  have := (l.getLast hne).toNat_lt
  omega
theorem shl_or (v : Nat) (b : Nat) (hv : v * 256 ≤ 9223372036854775807 - 255) (hb : b < 256) : v * 256 ||| b = v * 256 + b := by
 have : v * 256 = 2 ^ 8 * v := by omega
 rw [this, Nat.two_pow_add_eq_or_of_lt (by omega)]
theorem orA (a b : Nat) (ha : a < 9223372036854775808) (hb : b < 9223372036854775808) (hab : a ||| b < 9223372036854775808) : bitsA .or .i64 (a : Int) (b : Int) = some (.v (.int .i64 ((a ||| b : Nat) : Int))) := by
 have h1 : ∀ n : Nat, n < 9223372036854775808 → (BitVec.ofInt IntKind.i64.bits (n : Int)).toNat = n := by
  intro n hn
  rw [BitVec.toNat_ofInt]
  have : ((2 : Int) ^ IntKind.i64.bits) = 18446744073709551616 := by decide
  show ((n : Int) % ((2 ^ IntKind.i64.bits : Nat) : Int)).toNat = n
  have h2 : ((2 ^ IntKind.i64.bits : Nat) : Int) = 18446744073709551616 := by decide
  rw [h2]
  omega
 simp only [bitsA]
 rw [BitVec.toNat_or, h1 a ha, h1 b hb, w64 (by omega) (by omega)]
theorem wd9 (l : List UInt8) (hl : l.length ≤ 7) : Sound Try.prog 63 [.lst .any 1 (byL l)] (.v (.int .i64 (valM l : Nat))) := by
 refine zl9 Try.func63 rfl (by decide +kernel) (by simp [Try.f63]) rfl rfl (rs := [.tmp 2]) rfl ?_
 rw [show Try.f63.ntmps = 19 from rfl]
 refine yt9 [0] (by simp; rfl) ?_
 refine yt9 [0, 3] (by simp; rfl) ?_
 refine yk9 ?_
 refine yt9 [3, 6, 7, 8] (by simp; rfl) ?_
 refine yf9 ?_
 refine zn9 (fun k s => ∃ (i : Nat), k = l.length - i ∧ i ≤ l.length ∧ s = ⟨19, [(3, .v (.int .i64 (valM (l.take i) : Nat))), (6, .lst .any 1 (byL l)), (7, .v (.int .i64 (l.length : Nat))), (8, .v (.int .i64 (i : Nat)))], []⟩) (k := l.length) ⟨0, rfl, by omega, by simp [valM]⟩ ?_
 rintro k s ⟨i, rfl, hi, rfl⟩
 by_cases c : i < l.length
 ·have ci : (i : Int) < l.length := by omega
  obtain ⟨b, hb⟩ : ∃ b, l[i]? = some b := ⟨_, List.getElem?_eq_getElem c⟩
  have hb2 : l[i]'c = b := by rw [List.getElem?_eq_getElem c] at hb; exact Option.some.inj hb
  have wi := w64 (n := (i : Int) + 1) (by omega) (by omega)
  have hv : valM (l.take (i + 1)) = valM (l.take i) * 256 + b.toNat := by rw [List.take_add_one, hb, Option.toList_some, valM_snoc]
  have hlt := valM_lt i (l.take i) (by simp; omega)
  have hlt2 : valM (l.take i) < 256 ^ 6 := Nat.lt_of_lt_of_le hlt (Nat.pow_le_pow_right (by omega) (by omega))
  have hlt3 : (256 : Nat) ^ 6 = 281474976710656 := by decide
  obtain ⟨V, hV⟩ : ∃ V, valM (l.take i) = V := ⟨_, rfl⟩
  rw [hV] at hv hlt2 ⊢
  refine yt9 [3, 6, 7, 8, 9] (by simp [c]; rfl) ?_
  refine yk9 ?_
  refine yd9 rfl (fun h => ?_) (fun h => by simp at h)
  refine yh9 ?_
  refine yk9 ?_
  refine yf9 ?_
  refine yt9 [3, 6, 7, 8, 5] (by simp [c, ci, hb2]; rfl) ?_
  have hbl := b.toNat_lt
  have s1 : IntKind.i64.wrap ((V : Int) * 2 ^ min 8 IntKind.i64.bits) = ((V * 256 : Nat) : Int) := by
   have h8 : ((2 : Int) ^ min 8 IntKind.i64.bits) = 256 := by decide
   rw [h8, w64 (by omega) (by omega)]
   omega
  have s2 : IntKind.i64.wrap (b.toNat : Int) = (b.toNat : Int) := w64 (by omega) (by omega)
  have s3 : V * 256 ||| b.toNat = V * 256 + b.toNat := shl_or V b.toNat (by omega) hbl
  have s4 := orA (V * 256) b.toNat (by omega) (by omega) (by rw [s3]; omega)
  rw [s3] at s4
  refine zs9 [3, 6, 7, 8] (by simp [s1, s2, s4, -Int.natCast_mul, -Int.natCast_add]; rfl) ?_
  refine zs9 [3, 6, 7, 8] (by simp [wi]; rfl) ?_
  exact ⟨_, by omega, i + 1, rfl, by omega, by simp [hv]⟩
 have hie : i = l.length := by omega
 subst hie
 rw [List.take_length]
 refine yt9 [3, 6, 7, 8, 9] (by simp; rfl) ?_
 refine yk9 ?_
 refine yd9 rfl (fun h => by simp at h) (fun h => ?_)
 refine zh9 ?_
 refine yt9 [2] (by simp; rfl) ?_
 refine zr9 ?_
 repeat (first | refine yl9 ?_ | refine yc9 ?_)
 simp [retQ]
end Go.AM
namespace Go.AM
open Go.RowKit Go.Proofs
set_option linter.unusedSimpArgs false
set_option linter.unusedVariables false
set_option maxHeartbeats 1000000
theorem u3 : Try.prog.underlying 3 = some (.int .i64) := by kernel_rfl
theorem grow_callW (n : Nat) (hn : n ≤ 100000000) : wn9 Try.prog 85 [.lst .nil 1 [], .v (.int .i64 n)] [] fun r h' =>
  (n = 0 ∧ r = .lst .nil 1 [] ∧ h' = []) ∨ (0 < n ∧ ∃ cap, n ≤ cap ∧ cap ≤ maxLen ∧ r = .arr 0 0 0 cap ∧ h' = [.cells 5 (byL (List.replicate cap 0))]) := by
 refine zk9 Try.func85 rfl (by decide +kernel) (by simp [Try.f85]) (rs := [.tmp 4]) rfl ?_
 rw [show Try.f85.ntmps = 27 from rfl]
 have h0 : ¬ (n : Int) < 0 := by omega
 have hw0 : IntKind.i64.wrap (n : Int) = n := w64 (by omega) (by omega)
 have hw00 : IntKind.i64.wrap 0 = 0 := rfl
 refine yt9 [0, 1] (by simp; rfl) ?_
 refine yk9 ?_
 refine yt9 [0, 1, 6] (by simp [h0]; rfl) ?_
 refine yd9 rfl (fun h => by cases h) (fun h => ?_)
 refine yh9 ?_
 refine yk9 ?_
 refine yt9 [0, 1] (by simp [hw0, hw00]; rfl) ?_
 by_cases hp : 0 < n
 ·refine yt9 [0, 1, 16] (by simp [hp]; rfl) ?_
  refine yd9 rfl (fun h => ?_) (fun h => by cases h)
  refine W_rE [0] ?_
  refine yq9 5 (by simp; rfl) rfl ?_
  refine runA_zeros (n := n) (by simp) rfl rfl rfl rfl (by simp; exact ⟨rfl, rfl⟩) (by simp; rfl) s27 u3 a5 z5 (by simp) hp (by omega) ?_
  intro cap h1 h2
  refine ⟨_, by simp; rfl, ?_⟩
  refine yr9 (by simp; rfl) ?_
  refine yt9 [4] (by simp; rfl) ?_
  refine zr9 ?_
  refine retW_mk (by simp; rfl) (by simp) (by simp [repC_bytes]) ?_
  refine .inr ⟨hp, cap, h1, h2, ?_, ?_⟩
  ·by_cases hc : cap = 0
   ·omega
   ·simp [hc]
  ·simp [repC_bytes]
 ·have : n = 0 := by omega
  subst this
  refine yt9 [0, 1, 16] (by simp; rfl) ?_
  refine yd9 rfl (fun h => by cases h) (fun h => ?_)
  refine yh9 ?_
  refine yt9 [4] (by simp; rfl) ?_
  refine zr9 ?_
  refine retW_mk (by simp; rfl) (by simp) (by simp) ?_
  exact .inl ⟨rfl, rfl, rfl⟩
def total (L : List (List UInt8)) : Nat := L.flatten.length
@[simp] theorem total_nil : total [] = 0 := rfl
theorem total_take {L : List (List UInt8)} {i : Nat} {b : List UInt8} (h : L[i]? = some b) : total (L.take (i + 1)) = total (L.take i) + b.length := by
 unfold total; rw [List.take_add_one, h]; simp
theorem flat_take {L : List (List UInt8)} {i : Nat} {b : List UInt8} (h : L[i]? = some b) : (L.take (i + 1)).flatten = (L.take i).flatten ++ b := by
 rw [List.take_add_one, h]; simp
theorem total_le (L : List (List UInt8)) (i : Nat) : total (L.take i) ≤ total L := by
 unfold total
 have : L.flatten = (L.take i).flatten ++ (L.drop i).flatten := by rw [← List.flatten_append, List.take_append_drop]
 rw [this, List.length_append]; omega
theorem zq8 (L : List (List UInt8)) (hL : total L ≤ 100000000) (hl : L.length ≤ 100000000) : Sound Try.prog 51 [.lst .any 1 (bbL L)] (.lst .any 1 (byL L.flatten)) := by
 refine yw8 Try.func51 rfl (by decide +kernel) (by simp [Try.f51]) (by simp [AV.rfL, AV.rf]) rfl (rs := [.tmp 2]) rfl ?_
 rw [show Try.f51.ntmps = 36 from rfl]
 refine yt9 [0] (by simp; rfl) ?_
 refine yt9 [0, 3] (by simp; rfl) ?_
 refine yk9 ?_
 refine yt9 [0, 3, 9, 10, 11] (by simp; rfl) ?_
 refine yf9 ?_
 refine zn9 (fun k s => ∃ i : Nat, k = L.length - i ∧ i ≤ L.length ∧ s = ⟨36, [(0, .lst .any 1 (bbL L)), (3, .v (.int .i64 (total (L.take i) : Nat))), (9, .lst .any 1 (bbL L)), (10, .v (.int .i64 (L.length : Nat))), (11, .v (.int .i64 (i : Nat)))], []⟩) (k := L.length) ⟨0, rfl, by omega, by simp⟩ ?_
 rintro k s ⟨i, rfl, hi, rfl⟩
 by_cases h1 : i < L.length
 ·obtain ⟨b, hb⟩ : ∃ b, L[i]? = some b := ⟨_, List.getElem?_eq_getElem h1⟩
  have hbb : (bbL L)[i]? = some (.lst .any 1 (byL b)) := by rw [bbL_get, hb]; rfl
  have hg : L[i] = b := (List.getElem?_eq_some_iff.1 hb).2
  have h1' : (i : Int) < L.length := by omega
  have ht := total_take hb
  have hle := total_le L (i + 1)
  have hw : IntKind.i64.wrap ((total (L.take i) : Nat) + (b.length : Int)) = (total (L.take (i + 1)) : Nat) := by rw [w64 (by omega) (by omega)]; omega
  have hw2 : IntKind.i64.wrap ((i : Int) + 1) = (i + 1 : Nat) := w64 (by omega) (by omega)
  have h0 : ¬ ((total (L.take (i + 1)) : Nat) : Int) < 0 := by omega
  refine yt9 [0, 3, 9, 10, 11, 12] (by simp [h1, h1']; rfl) ?_
  refine yk9 ?_
  refine yd9 rfl (fun h => ?_) (fun h => by cases h)
  refine yh9 ?_
  refine yk9 ?_
  refine yf9 ?_
  refine yt9 [0, 3, 9, 10, 11, 5] (by simp [h1, hbb, hg]; rfl) ?_
  refine yt9 [0, 3, 9, 10, 11] (by simp [hw]; rfl) ?_
  refine yt9 [0, 3, 9, 10, 11, 20] (by simp [h0]; rfl) ?_
  refine yd9 rfl (fun h => by cases h) (fun h => ?_)
  refine yh9 ?_
  refine zs9 [0, 3, 9, 10, 11] (by simp [hw2]; rfl) ?_
  exact ⟨_, by omega, i + 1, rfl, by omega, rfl⟩
 have hie : i = L.length := by omega
 subst hie
 rw [List.take_length]
 refine yt9 [0, 3, 9, 10, 11, 12] (by simp; rfl) ?_
 refine yk9 ?_
 refine yd9 rfl (fun h => by cases h) (fun h => ?_)
 refine zh9 ?_
 refine W_rK [0, 6] ?_
 refine yq9 1 (by simp; rfl) rfl ?_
 refine zg9 (by simp) (by first | (simp; done) | (simp; rfl)) ((grow_callW (total L) hL).mono ?_)
 rintro r h' (⟨hz, rfl, rfl⟩ | ⟨hp, cap, hc1, hc2, rfl, rfl⟩)
 ·
  refine ⟨_, by simp; rfl, ?_⟩
  refine yr9 (by simp; rfl) ?_
  have hflat : L.flatten = [] := List.eq_nil_of_length_eq_zero hz
  have hall : ∀ i b, L[i]? = some b → b = [] := fun i b hb => by
   have := List.flatten_eq_nil_iff.1 hflat b (List.mem_of_getElem? hb)
   exact this
  rw [hflat]
  refine yk9 ?_
  refine yt9 [6, 25, 26, 27] (by simp; rfl) ?_
  refine yf9 ?_
  refine zn9 (fun k s => ∃ (i : Nat) (fl : Fl), k = L.length - i ∧ i ≤ L.length ∧ (fl = .nil ∨ fl = .tip 5 67) ∧ s = ⟨36, [(6, .lst fl 1 []), (25, .lst .any 1 (bbL L)), (26, .v (.int .i64 (L.length : Nat))), (27, .v (.int .i64 (i : Nat)))], []⟩) (k := L.length) ⟨0, .nil, rfl, by omega, .inl rfl, by simp⟩ ?_
  rintro k s ⟨i, fl, rfl, hi, hfl, rfl⟩
  by_cases h1 : i < L.length
  ·obtain ⟨b, hb⟩ : ∃ b, L[i]? = some b := ⟨_, List.getElem?_eq_getElem h1⟩
   have hbb : (bbL L)[i]? = some (.lst .any 1 (byL b)) := by rw [bbL_get, hb]; rfl
   have hg : L[i] = b := (List.getElem?_eq_some_iff.1 hb).2
   have hbe := hall i b hb
   subst hbe
   have h1' : (i : Int) < L.length := by omega
   have hw2 : IntKind.i64.wrap ((i : Int) + 1) = (i + 1 : Nat) := w64 (by omega) (by omega)
   refine yt9 [6, 25, 26, 27, 28] (by simp [h1, h1']; rfl) ?_
   refine yk9 ?_
   refine yd9 rfl (fun h => ?_) (fun h => by cases h)
   refine yh9 ?_
   refine yk9 ?_
   refine yf9 ?_
   refine yt9 [6, 25, 26, 27, 8] (by simp [h1, hbb, hg]; rfl) ?_
   rcases hfl with rfl | rfl
   ·refine zs9 [6, 25, 26, 27] (by simp; rfl) ?_
    refine zs9 [6, 25, 26, 27] (by simp [hw2]; rfl) ?_
    exact ⟨_, by omega, i + 1, _, rfl, by omega, .inr rfl, rfl⟩
   ·refine zs9 [6, 25, 26, 27] (by simp; rfl) ?_
    refine zs9 [6, 25, 26, 27] (by simp [hw2]; rfl) ?_
    exact ⟨_, by omega, i + 1, _, rfl, by omega, .inr rfl, rfl⟩
  have hie : i = L.length := by omega
  subst hie
  refine yt9 [6, 25, 26, 27, 28] (by simp; rfl) ?_
  refine yk9 ?_
  refine yd9 rfl (fun h => by cases h) (fun h => ?_)
  refine zh9 ?_
  rcases hfl with rfl | rfl
  all_goals
   refine yt9 [2] (by simp; rfl) ?_
   refine zr9 ?_
   repeat (first | refine yl9 ?_ | refine yc9 ?_)
   exact ⟨_, by simp [retQ]; exact ⟨rfl, by simp⟩, .inr rfl⟩
 ·
  refine ⟨_, by simp; rfl, ?_⟩
  refine yr9 (by simp; rfl) ?_
  refine yk9 ?_
  refine yt9 [6, 25, 26, 27] (by simp; rfl) ?_
  refine yf9 ?_
  refine zn9 (fun k s => ∃ (i : Nat) (B : List UInt8), k = L.length - i ∧ i ≤ L.length ∧ B.length = cap ∧ B.take (total (L.take i)) = (L.take i).flatten ∧
   s = ⟨36, [(6, .arr 0 0 (total (L.take i)) cap), (25, .lst .any 1 (bbL L)), (26, .v (.int .i64 (L.length : Nat))), (27, .v (.int .i64 (i : Nat)))], [.cells 5 (byL B)]⟩) (k := L.length) ⟨0, List.replicate cap 0, rfl, by omega, by simp, by simp, by simp⟩ ?_
  rintro k s ⟨i, B, rfl, hi, hB, hBt, rfl⟩
  by_cases h1 : i < L.length
  ·obtain ⟨b, hb⟩ : ∃ b, L[i]? = some b := ⟨_, List.getElem?_eq_getElem h1⟩
   have hbb : (bbL L)[i]? = some (.lst .any 1 (byL b)) := by rw [bbL_get, hb]; rfl
   have hg : L[i] = b := (List.getElem?_eq_some_iff.1 hb).2
   have h1' : (i : Int) < L.length := by omega
   have hw2 : IntKind.i64.wrap ((i : Int) + 1) = (i + 1 : Nat) := w64 (by omega) (by omega)
   have ht := total_take hb
   have hf := flat_take hb
   have hle := total_le L (i + 1)
   refine yt9 [6, 25, 26, 27, 28] (by simp [h1, h1']; rfl) ?_
   refine yk9 ?_
   refine yd9 rfl (fun h => ?_) (fun h => by cases h)
   refine yh9 ?_
   refine yk9 ?_
   refine yf9 ?_
   refine yt9 [6, 25, 26, 27, 8] (by simp [h1, hbb, hg]; rfl) ?_
   refine W_rE [6, 25, 26, 27] ?_
   refine yq9 2 (by simp; rfl) rfl ?_
   refine runA_app (id := 0) (len := total (L.take i)) (cap := cap) (oy := .any) (ys := byL b) (cs := byL B) (by simp) rfl rfl rfl rfl (by simp) (by simp) s27 a5 z5 (by simp) (by simp) (by simp [hB]) (catK_byL _) (by simp; omega) ?_
   rintro s1 x1 (⟨_, rfl, rfl⟩ | ⟨hbad, _⟩)
   ·refine ⟨_, by simp; rfl, ?_⟩
    refine yr9 (by simp; rfl) ?_
    refine zs9 [6, 25, 26, 27] (by simp [hw2]; rfl) ?_
    refine ⟨_, by omega, i + 1, B.take (total (L.take i)) ++ b ++ B.drop (total (L.take i) + b.length), rfl, by omega, ?_, ?_, ?_⟩
    ·simp; omega
    ·rw [ht, hf, ← hBt]
     rw [List.take_append_of_le_length (by simp; omega)]
     rw [List.take_of_length_le (by simp; omega)]
    ·rw [← setSeg_bytes, ht]; simp
   ·exfalso
    simp at hbad
    omega
  have hie : i = L.length := by omega
  subst hie
  rw [List.take_length] at hBt ⊢
  refine yt9 [6, 25, 26, 27, 28] (by simp; rfl) ?_
  refine yk9 ?_
  refine yd9 rfl (fun h => by cases h) (fun h => ?_)
  refine zh9 ?_
  refine yt9 [2] (by simp; rfl) ?_
  refine zr9 ?_
  repeat (first | refine yl9 ?_ | refine yc9 ?_)
  have hc := chunk_bytes (total L) B (by omega)
  rw [hBt] at hc
  exact ⟨_, by simp [retQ, vl9, hB, hc, hc1]; exact ⟨rfl, by simp⟩, .inr (by simp [AV.weak])⟩
end Go.AM
namespace Go.AM
open Go.RowKit Go.Proofs
set_option linter.unusedSimpArgs false
set_option linter.unusedVariables false
set_option maxHeartbeats 4000000
end Go.AM
namespace Go.AM
open Go.RowKit Go.Proofs
set_option linter.unusedSimpArgs false
set_option linter.unusedVariables false
set_option maxHeartbeats 2000000
@[simp] theorem bytesA_byL (l : List UInt8) : bytesA (byL l) = some l := by
 induction l with
 | nil => rfl
 | cons b l ih => rw [wt9]; simp [bytesA, ih]
theorem ne_nat (n m : Nat) : ((n : Int) != (m : Int)) = !decide (n = m) := by
 rw [Bool.eq_iff_iff]; simp; omega
theorem take_succ_eq {α : Type} {a b : List α} {i : Nat} {x : α} (ha : a[i]? = some x) (hb : b[i]? = some x) (h : a.take i = b.take i) : a.take (i + 1) = b.take (i + 1) := by
 rw [List.take_add_one, List.take_add_one, ha, hb, h]
theorem equal_sound (a b : List UInt8) : Sound Try.prog 55 [.lst .any 1 (byL a), .lst .any 1 (byL b)] (.v (.bool (decide (a = b)))) := by
 refine zl9 Try.func55 rfl (by decide +kernel) (by simp [Try.f55]) rfl rfl (rs := [.tmp 4]) rfl ?_
 rw [show Try.f55.ntmps = 10 from rfl]
 refine yt9 [0, 1] (by simp; rfl) ?_
 refine yt9 [4] (by simp [strA]; rfl) ?_
 refine zr9 ?_
 repeat (first | refine yl9 ?_ | refine yc9 ?_)
 simp [retQ]
 rw [Bool.eq_iff_iff]; simp
theorem eqFunc_sound (a b : List (List UInt8)) (hl : a.length ≤ 100000000) : Sound Try.prog 93 [.lst .any 1 (bbL a), .lst .any 1 (bbL b), .fn (.func 55) [] []] (.v (.bool (decide (a = b)))) := by
 refine zl9 Try.func93 rfl (by decide +kernel) (by simp [Try.f93]) rfl rfl (rs := [.tmp 6]) rfl ?_
 rw [show Try.f93.ntmps = 32 from rfl]
 refine yt9 [0, 1, 2] (by simp; rfl) ?_
 refine yk9 ?_
 by_cases c : a.length = b.length
 rotate_left
 ·have hne : ¬ a = b := fun e => c (by rw [e])
  refine W_cT [0, 1, 2, 14] (by simp [ne_nat, c]; rfl) rfl ?_
  refine yt9 [6] (by simp; rfl) ?_
  refine zr9 ?_
  repeat (first | refine yl9 ?_ | refine yc9 ?_)
  simp [retQ, hne]
 refine W_cF [0, 1, 2, 14] (by simp [c]; rfl) rfl ?_
 refine yh9 ?_
 refine yk9 ?_
 refine yt9 [1, 2, 15, 16, 17] (by simp; rfl) ?_
 refine yf9 ?_
 refine zn9 (fun k s => ∃ i : Nat, k = a.length - i ∧ i ≤ a.length ∧ a.take i = b.take i ∧ s = ⟨32, [(1, .lst .any 1 (bbL b)), (2, .fn (.func 55) [] []), (15, .lst .any 1 (bbL a)), (16, .v (.int .i64 (a.length : Nat))), (17, .v (.int .i64 (i : Nat)))], []⟩) (k := a.length) ⟨0, by simp, by omega, by simp, by simp⟩ ?_
 rintro k s ⟨i, rfl, hi, hab, rfl⟩
 by_cases hi2 : i < a.length
 ·have hj2 : i < b.length := by omega
  have hi2' : (i : Int) < a.length := by omega
  have hj2' : (i : Int) < b.length := by omega
  obtain ⟨r, hr⟩ : ∃ r, a[i]? = some r := ⟨_, List.getElem?_eq_getElem hi2⟩
  obtain ⟨q, hq⟩ : ∃ q, b[i]? = some q := ⟨_, List.getElem?_eq_getElem hj2⟩
  have hr2 : a[i]'hi2 = r := by rw [List.getElem?_eq_getElem hi2] at hr; exact Option.some.inj hr
  have hq2 : b[i]'hj2 = q := by rw [List.getElem?_eq_getElem hj2] at hq; exact Option.some.inj hq
  have wi := w64 (n := (i : Int) + 1) (by omega) (by omega)
  refine yt9 [1, 2, 15, 16, 17, 18] (by simp [hi2]; rfl) ?_
  refine yk9 ?_
  refine yd9 rfl (fun h => ?_) (fun h => by simp at h)
  refine yh9 ?_
  refine yk9 ?_
  refine yf9 ?_
  refine yt9 [1, 2, 15, 16, 17, 7, 8] (by simp [hi2, hi2', hr2]; rfl) ?_
  refine yt9 [1, 2, 15, 16, 17, 8, 9] (by simp [hj2, hj2', hq2]; rfl) ?_
  refine W_rK [1, 2, 15, 16, 17, 30] ?_
  refine yq9 3 (by simp; rfl) rfl ?_
  refine yj9 (by simp) (by first | (simp; done) | (simp; rfl)) (equal_sound r q) (by simp; rfl) ?_
  by_cases e : r = q
  ·subst e
   refine yr9 (by simp; rfl) ?_
   refine yd9 rfl (fun h => by simp at h) (fun h => ?_)
   refine yh9 ?_
   refine zs9 [1, 2, 15, 16, 17] (by simp [wi]; rfl) ?_
   exact ⟨_, by omega, i + 1, rfl, by omega, take_succ_eq hr hq hab, by simp⟩
  ·have hne : ¬ a = b := fun he => e (by rw [he, hq] at hr; exact (Option.some.inj hr).symm)
   refine yr9 (by simp [e]; rfl) ?_
   refine yd9 rfl (fun h => ?_) (fun h => by simp at h)
   refine yt9 [6] (by simp; rfl) ?_
   refine zr9 ?_
   repeat (first | refine yl9 ?_ | refine yc9 ?_)
   simp [retQ, hne]
 refine yt9 [1, 2, 15, 16, 17, 18] (by simp [hi2]; rfl) ?_
 refine yk9 ?_
 refine yd9 rfl (fun h => by simp at h) (fun h => ?_)
 refine zh9 ?_
 have hie : i = a.length := by omega
 have hEq : a = b := by
  rw [hie, List.take_length] at hab
  rw [hab, c, List.take_length]
 refine yt9 [6] (by simp; rfl) ?_
 refine zr9 ?_
 repeat (first | refine yl9 ?_ | refine yc9 ?_)
 simp [retQ, hEq]
theorem same66_sound (a b : List (List UInt8)) (hl : a.length ≤ 100000000) : Sound Try.prog 66 [.lst .any 1 (bbL a), .lst .any 1 (bbL b)] (.v (.bool (decide (a = b)))) := by
 refine zl9 Try.func66 rfl (by decide +kernel) (by simp [Try.f66]) rfl rfl (rs := [.tmp 4]) rfl ?_
 rw [show Try.f66.ntmps = 8 from rfl]
 refine yt9 [0, 1] (by simp; rfl) ?_
 refine W_rK [4] ?_
 refine yq9 2 (by simp; rfl) rfl ?_
 refine yj9 (by simp) (by first | (simp; done) | (simp; rfl)) (eqFunc_sound a b hl) (by simp; rfl) ?_
 refine yr9 (by simp; rfl) ?_
 refine zr9 ?_
 repeat (first | refine yl9 ?_ | refine yc9 ?_)
 simp [retQ]
theorem yc7 {rs : List ResultVar} {r r0 : AV} {e : Exit} {s : St} (h : retQ Try.prog rs r0 e s) (hp : r0.plain = r) : retU Try.prog rs r e s := ⟨r0, h, hp ▸ AV.Le.plain r0⟩
end Go.AM
namespace Go.AM
open Go.RowKit Go.Proofs
set_option linter.unusedSimpArgs false
set_option linter.unusedVariables false
set_option maxHeartbeats 4000000
structure Seg where
 par : Int
 org : Int
 frm : Int
 len : Int
structure Rlo where
 at_ : Int
 len : Int
 neg : Bool
structure LMod where
 text : List UInt8
 rel : List Rlo
 seg : List Seg
 entry : Int
@[simp] def segA (s : Seg) : AV := .agg [.v (.int .i64 s.par), .v (.int .i64 s.org), .v (.int .i64 s.frm), .v (.int .i64 s.len)]
@[simp] def rloA (r : Rlo) : AV := .agg [.v (.int .i64 r.at_), .v (.int .i64 r.len), .v (.bool r.neg)]
def sgL (l : List Seg) : List AV := l.map segA
def rlL (l : List Rlo) : List AV := l.map rloA
@[simp] theorem sgL_length (l : List Seg) : (sgL l).length = l.length := by simp [sgL]
@[simp] theorem rlL_length (l : List Rlo) : (rlL l).length = l.length := by simp [rlL]
@[simp] theorem sgL_getElem (l : List Seg) (i : Nat) (h : i < (sgL l).length) : (sgL l)[i] = segA (l[i]'(by simpa using h)) := by simp [sgL]
@[simp] theorem rlL_getElem (l : List Rlo) (i : Nat) (h : i < (rlL l).length) : (rlL l)[i] = rloA (l[i]'(by simpa using h)) := by simp [rlL]
@[simp] theorem dpL_sgL (l : List Seg) : AV.dpL (sgL l) = sgL l := by induction l <;> simp_all [sgL, AV.dpL, AV.dp]
@[simp] theorem dpL_rlL (l : List Rlo) : AV.dpL (rlL l) = rlL l := by induction l <;> simp_all [rlL, AV.dpL, AV.dp]
def lmC (m : LMod) : List AV := [.lst .any 1 (byL m.text), .lst .any 3 (rlL m.rel), .lst .any 4 (sgL m.seg), .v (.int .i64 m.entry)]
@[simp] def lmA (m : LMod) : AV := .agg [.lst .any 1 (byL m.text), .lst .any 3 (rlL m.rel), .lst .any 4 (sgL m.seg), .v (.int .i64 m.entry)]
def paS (l : List Seg) (p : Int) : Seg := (l[p.toNat]?).getD ⟨0, 0, 0, 0⟩
def seg1 (fr : Int) (s : Seg) : Bool := decide (s.len < 0) || (decide (s.org < 0) || (decide (65536 < s.org) || (decide (65536 - s.org < s.len) || !decide (s.frm = fr))))
def seg2 (l : List Seg) (i : Nat) (s : Seg) : Bool :=
 if i = 0 then !decide (s.par = -1) || (!decide (s.org = 0) || decide (s.len < 1))
 else decide (s.par < 0) || (decide ((i : Int) ≤ s.par) || decide (s.org < (paS l s.par).org + (paS l s.par).len))
def yr8 (l : List Seg) : Nat → List Seg → Int → Option Int
 | _, [], fr => some fr
 | i, s :: r, fr => if seg1 fr s = true then none else if seg2 l i s = true then none else yr8 l (i + 1) r (fr + s.len)
def segF (m : LMod) : Option Int → Bool
 | none => false
 | some fr => decide (1 ≤ m.seg.length) && (decide (m.seg.length ≤ 64) && decide (fr = m.text.length))
def segM (m : LMod) : Bool := segF m (yr8 m.seg 0 m.seg 0)
theorem seg1_ok {fr : Int} {s : Seg} (h : seg1 fr s = false) : 0 ≤ s.len ∧ 0 ≤ s.org ∧ s.org ≤ 65536 ∧ s.len ≤ 65536 - s.org ∧ s.frm = fr := by
 simp only [seg1, Bool.or_eq_false_iff, decide_eq_false_iff_not, Bool.not_eq_false', decide_eq_true_eq] at h
 obtain ⟨h1, h2, h3, h4, h5⟩ := h
 exact ⟨by omega, by omega, by omega, by omega, h5⟩
theorem yh8 (m : LMod) (hl : m.seg.length ≤ 100000) (ht : m.text.length ≤ 9223372036854775807) : Sound Try.prog 69 [lmA m] (.v (.bool (segM m))) := by
 refine zl9 Try.func69 rfl (by decide +kernel) (by simp [Try.f69]) rfl rfl (rs := [.tmp 2]) rfl ?_
 rw [show Try.f69.ntmps = 107 from rfl]
 refine yt9 [1] (by simp; rfl) ?_
 refine yt9 [1, 3] (by simp; rfl) ?_
 refine yk9 ?_
 refine yt9 [1, 3, 7, 8, 9] (by simp; rfl) ?_
 refine yf9 ?_
 obtain ⟨R, hR⟩ : ∃ R, yr8 m.seg 0 m.seg 0 = R := ⟨_, rfl⟩
 have hS : segM m = segF m R := by rw [segM, hR]
 refine zn9 (fun k σ => ∃ (i : Nat) (fr : Int), k = m.seg.length - i ∧ i ≤ m.seg.length ∧ yr8 m.seg i (m.seg.drop i) fr = R ∧ 0 ≤ fr ∧ fr ≤ 65536 * i ∧ (∀ (j : Nat) (s : Seg), j < i → m.seg[j]? = some s → 0 ≤ s.org ∧ s.org ≤ 65536 ∧ 0 ≤ s.len ∧ s.len ≤ 65536) ∧
  σ = ⟨107, [(1, .loc 0 0), (3, .v (.int .i64 fr)), (7, .lst .any 4 (sgL m.seg)), (8, .v (.int .i64 (m.seg.length : Nat))), (9, .v (.int .i64 (i : Nat)))], [.cells 40 (lmC m)]⟩) (k := m.seg.length) ⟨0, 0, rfl, by omega, hR, by omega, by omega, by simp, by simp [lmC]⟩ ?_
 rintro k σ ⟨i, fr, rfl, hi, hgo, hf0, hf1, hall, rfl⟩
 by_cases c : i < m.seg.length
 ·have ci : (i : Int) < m.seg.length := by omega
  obtain ⟨s, hs⟩ : ∃ s, m.seg[i]? = some s := ⟨_, List.getElem?_eq_getElem c⟩
  have hs2 : m.seg[i]'c = s := by rw [List.getElem?_eq_getElem c] at hs; exact Option.some.inj hs
  have hdr : m.seg.drop i = s :: m.seg.drop (i + 1) := by rw [List.drop_eq_getElem_cons c, hs2]
  have wi := w64 (n := (i : Int) + 1) (by omega) (by omega)
  rw [hdr, yr8] at hgo
  have hret : R = none → ∀ (h : List AObj), retQ Try.prog [.tmp 2] (.v (.bool (segM m))) .ret ⟨107, [(2, .v (.bool false))], h⟩ := by
   intro hR0 h
   simp [retQ, hS, hR0, segF]
  refine yt9 [1, 3, 7, 8, 9, 10] (by simp [c]; rfl) ?_
  refine yk9 ?_
  refine yd9 rfl (fun h => ?_) (fun h => by simp at h)
  refine yh9 ?_
  refine yk9 ?_
  refine yf9 ?_
  refine yt9 [1, 3, 7, 8, 9, 5, 4] (by simp [c, ci, hs2, lmC, ys9, AV.weakL, AV.weak, AV.koneL, AV.kone]; rfl) ?_
  refine yk9 ?_
  refine xg9 (fun σ => σ = ⟨107, [(1, .loc 0 0), (3, .v (.int .i64 fr)), (7, .lst .any 4 (sgL m.seg)), (8, .v (.int .i64 (m.seg.length : Nat))), (9, .v (.int .i64 (i : Nat))), (5, .loc 1 0), (4, .v (.int .i64 (i : Nat))), (40, .v (.bool (seg1 fr s)))], [.cells 40 (lmC m), .cells 83 [.v (.int .i64 s.par), .v (.int .i64 s.org), .v (.int .i64 s.frm), .v (.int .i64 s.len)]]⟩) ?_ ?_
  ·have e5 : (s.frm != fr) = !decide (s.frm = fr) := by by_cases h : s.frm = fr <;> simp [h]
   by_cases a1 : s.len < 0
   ·refine W_rE [1, 3, 7, 8, 9, 5, 4, 40] ?_
    refine yq9 6 (by simp [lmC, a1, e5]; rfl) rfl ?_
    refine yq9 6 (by simp [lmC, a1, e5]; rfl) rfl ?_
    refine yq9 6 (by simp [lmC, a1, e5]; rfl) rfl ?_
    refine yq9 6 (by simp [lmC, a1, e5]; rfl) rfl ?_
    refine yr9 (by simp [lmC, a1, e5]; rfl) ?_
    simp [yp9, lmC, seg1, a1, e5]
   by_cases a2 : s.org < 0
   ·refine W_rE [1, 3, 7, 8, 9, 5, 4, 40] ?_
    refine yq9 6 (by simp [lmC, a1, a2, e5]; rfl) rfl ?_
    refine yq9 6 (by simp [lmC, a1, a2, e5]; rfl) rfl ?_
    refine yq9 6 (by simp [lmC, a1, a2, e5]; rfl) rfl ?_
    refine yq9 6 (by simp [lmC, a1, a2, e5]; rfl) rfl ?_
    refine yr9 (by simp [lmC, a1, a2, e5]; rfl) ?_
    simp [yp9, lmC, seg1, a1, a2, e5]
   by_cases a3 : 65536 < s.org
   ·refine W_rE [1, 3, 7, 8, 9, 5, 4, 40] ?_
    refine yq9 6 (by simp [lmC, a1, a2, a3, e5]; rfl) rfl ?_
    refine yq9 6 (by simp [lmC, a1, a2, a3, e5]; rfl) rfl ?_
    refine yq9 6 (by simp [lmC, a1, a2, a3, e5]; rfl) rfl ?_
    refine yq9 6 (by simp [lmC, a1, a2, a3, e5]; rfl) rfl ?_
    refine yr9 (by simp [lmC, a1, a2, a3, e5]; rfl) ?_
    simp [yp9, lmC, seg1, a1, a2, a3, e5]
   have a3n : ¬ 65536 < s.org := a3
   have w5 : IntKind.i64.wrap (65536 - s.org) = 65536 - s.org := w64 (by omega) (by omega)
   by_cases a4 : 65536 - s.org < s.len
   ·refine W_rE [1, 3, 7, 8, 9, 5, 4, 40] ?_
    refine yq9 6 (by simp [lmC, a1, a2, a3n, w5, a4, e5]; rfl) rfl ?_
    refine yq9 6 (by simp [lmC, a1, a2, a3n, w5, a4, e5]; rfl) rfl ?_
    refine yq9 6 (by simp [lmC, a1, a2, a3n, w5, a4, e5]; rfl) rfl ?_
    refine yq9 6 (by simp [lmC, a1, a2, a3n, w5, a4, e5]; rfl) rfl ?_
    refine yr9 (by simp [lmC, a1, a2, a3n, w5, a4, e5]; rfl) ?_
    simp [yp9, lmC, seg1, a1, a2, a3n, w5, a4, e5]
   refine W_rE [1, 3, 7, 8, 9, 5, 4, 40] ?_
   refine yq9 6 (by simp [lmC, a1, a2, a3n, w5, a4, e5]; rfl) rfl ?_
   refine yq9 6 (by simp [lmC, a1, a2, a3n, w5, a4, e5]; rfl) rfl ?_
   refine yq9 6 (by simp [lmC, a1, a2, a3n, w5, a4, e5]; rfl) rfl ?_
   refine yq9 6 (by simp [lmC, a1, a2, a3n, w5, a4, e5]; rfl) rfl ?_
   refine yr9 (by simp [lmC, a1, a2, a3n, w5, a4, e5]; rfl) ?_
   simp [yp9, lmC, seg1, a1, a2, a3n, w5, a4, e5]
  rintro _ rfl
  by_cases h1 : seg1 fr s = true
  ·rw [if_pos h1] at hgo
   rw [h1]
   refine yd9 rfl (fun h => ?_) (fun h => by simp at h)
   refine yt9 [2] (by simp; rfl) ?_
   refine zr9 ?_
   repeat (first | refine yl9 ?_ | refine yc9 ?_)
   exact hret hgo.symm _
  have h1f : seg1 fr s = false := by simpa using h1
  obtain ⟨b1, b2, b3, b4, b5⟩ := seg1_ok h1f
  rw [if_neg h1] at hgo
  rw [h1f]
  refine yd9 rfl (fun h => by simp at h) (fun h => ?_)
  refine yh9 ?_
  refine ws9 (fun σ => seg2 m.seg i s = false ∧ σ = ⟨107, [(1, .loc 0 0), (3, .v (.int .i64 fr)), (7, .lst .any 4 (sgL m.seg)), (8, .v (.int .i64 (m.seg.length : Nat))), (9, .v (.int .i64 (i : Nat))), (5, .loc 1 0)], [.cells 40 (lmC m), .cells 83 [.v (.int .i64 s.par), .v (.int .i64 s.org), .v (.int .i64 s.frm), .v (.int .i64 s.len)]]⟩) ?_ ?_
  ·refine yt9 [1, 3, 7, 8, 9, 5, 4, 42] (by simp; rfl) ?_
   by_cases i0 : i = 0
   ·refine yd9 (by simp [i0]; rfl) (fun h => ?_) (fun h => by simp at h)
    refine xg9 (fun σ => σ = ⟨107, [(1, .loc 0 0), (3, .v (.int .i64 fr)), (7, .lst .any 4 (sgL m.seg)), (8, .v (.int .i64 (m.seg.length : Nat))), (9, .v (.int .i64 (i : Nat))), (5, .loc 1 0), (55, .v (.bool (seg2 m.seg i s)))], [.cells 40 (lmC m), .cells 83 [.v (.int .i64 s.par), .v (.int .i64 s.org), .v (.int .i64 s.frm), .v (.int .i64 s.len)]]⟩) ?_ ?_
    ·have e6 : (s.par != -1) = !decide (s.par = -1) := by by_cases h : s.par = -1 <;> simp [h]
     have e7 : (s.org != 0) = !decide (s.org = 0) := by by_cases h : s.org = 0 <;> simp [h]
     by_cases d1 : ¬ s.par = -1
     ·refine W_rE [1, 3, 7, 8, 9, 5, 55] ?_
      refine yq9 6 (by simp [lmC, i0, e6, e7, d1]; rfl) rfl ?_
      refine yq9 6 (by simp [lmC, i0, e6, e7, d1]; rfl) rfl ?_
      refine yr9 (by simp [lmC, i0, e6, e7, d1]; rfl) ?_
      simp [yp9, lmC, seg2, i0, e6, e7, d1]
     have d1p : s.par = -1 := by omega
     by_cases d2 : ¬ s.org = 0
     ·refine W_rE [1, 3, 7, 8, 9, 5, 55] ?_
      refine yq9 6 (by simp [lmC, i0, e6, e7, d1p, d2]; rfl) rfl ?_
      refine yq9 6 (by simp [lmC, i0, e6, e7, d1p, d2]; rfl) rfl ?_
      refine yr9 (by simp [lmC, i0, e6, e7, d1p, d2]; rfl) ?_
      simp [yp9, lmC, seg2, i0, e6, e7, d1p, d2]
     have d2p : s.org = 0 := by omega
     by_cases d3 : s.len < 1
     ·refine W_rE [1, 3, 7, 8, 9, 5, 55] ?_
      refine yq9 6 (by simp [lmC, i0, e6, e7, d1p, d2p, d3]; rfl) rfl ?_
      refine yq9 6 (by simp [lmC, i0, e6, e7, d1p, d2p, d3]; rfl) rfl ?_
      refine yr9 (by simp [lmC, i0, e6, e7, d1p, d2p, d3]; rfl) ?_
      simp [yp9, lmC, seg2, i0, e6, e7, d1p, d2p, d3]
     refine W_rE [1, 3, 7, 8, 9, 5, 55] ?_
     refine yq9 6 (by simp [lmC, i0, e6, e7, d1p, d2p, d3]; rfl) rfl ?_
     refine yq9 6 (by simp [lmC, i0, e6, e7, d1p, d2p, d3]; rfl) rfl ?_
     refine yr9 (by simp [lmC, i0, e6, e7, d1p, d2p, d3]; rfl) ?_
     simp [yp9, lmC, seg2, i0, e6, e7, d1p, d2p, d3]
    rintro _ rfl
    by_cases h2 : seg2 m.seg i s = true
    ·rw [if_pos h2] at hgo
     rw [h2]
     refine yd9 rfl (fun h => ?_) (fun h => by simp at h)
     refine yt9 [2] (by simp; rfl) ?_
     refine zr9 ?_
     repeat (first | refine yl9 ?_ | refine yc9 ?_)
     exact hret hgo.symm _
    have h2f : seg2 m.seg i s = false := by simpa using h2
    rw [h2f]
    refine yd9 rfl (fun h => by simp at h) (fun h => ?_)
    refine zt9 [1, 3, 7, 8, 9, 5] ?_
    refine yh9 ?_
    simp [yp9, h2f]
   have i0' : ¬ (i : Int) = 0 := by omega
   refine yd9 (by simp [i0, i0']; rfl) (fun h => by simp [i0, i0'] at h) (fun h => ?_)
   refine xg9 (fun σ => σ = ⟨107, [(1, .loc 0 0), (3, .v (.int .i64 fr)), (7, .lst .any 4 (sgL m.seg)), (8, .v (.int .i64 (m.seg.length : Nat))), (9, .v (.int .i64 (i : Nat))), (5, .loc 1 0), (84, .v (.bool (seg2 m.seg i s)))], [.cells 40 (lmC m), .cells 83 [.v (.int .i64 s.par), .v (.int .i64 s.org), .v (.int .i64 s.frm), .v (.int .i64 s.len)]]⟩) ?_ ?_
   ·by_cases d1 : s.par < 0
    ·refine vh9 [1, 3, 7, 8, 9, 5, 84] mx (by decide +kernel) ?_
     refine yw9 6 (by simp [lmC, i0, d1]; rfl) rfl ?_
     refine yw9 6 (by simp [lmC, i0, d1]; rfl) rfl ?_
     refine yw9 6 (by simp [lmC, i0, d1]; rfl) rfl ?_
     refine yw9 6 (by simp [lmC, i0, d1]; rfl) rfl ?_
     refine yv9 (by simp [lmC, i0, d1]; rfl) ?_
     simp [yp9, lmC, seg2, paS, i0, d1]
    by_cases d2 : (i : Int) ≤ s.par
    ·refine vh9 [1, 3, 7, 8, 9, 5, 84] mx (by decide +kernel) ?_
     refine yw9 6 (by simp [lmC, i0, d1, d2]; rfl) rfl ?_
     refine yw9 6 (by simp [lmC, i0, d1, d2]; rfl) rfl ?_
     refine yw9 6 (by simp [lmC, i0, d1, d2]; rfl) rfl ?_
     refine yw9 6 (by simp [lmC, i0, d1, d2]; rfl) rfl ?_
     refine yv9 (by simp [lmC, i0, d1, d2]; rfl) ?_
     simp [yp9, lmC, seg2, paS, i0, d1, d2]
    obtain ⟨j, hj⟩ : ∃ j : Nat, s.par = j := ⟨s.par.toNat, by omega⟩
    have hji : j < i := by omega
    have hnij : ¬ i ≤ j := by omega
    have hj0 : ¬ (j : Int) < 0 := by omega
    have hjl : j < m.seg.length := by omega
    have hjz : (j : Int) < m.seg.length := by omega
    obtain ⟨p, hjp⟩ : ∃ p, m.seg[j]? = some p := ⟨_, List.getElem?_eq_getElem hjl⟩
    have hjg : m.seg[j] = p := by rw [List.getElem?_eq_getElem hjl] at hjp; exact Option.some.inj hjp
    obtain ⟨q1, q2, q3, q4⟩ := hall j p hji hjp
    have w6 : IntKind.i64.wrap (p.org + p.len) = p.org + p.len := w64 (by omega) (by omega)
    by_cases d3 : s.org < p.org + p.len
    ·refine vh9 [1, 3, 7, 8, 9, 5, 84] mx (by decide +kernel) ?_
     refine yw9 6 (by simp [lmC, i0, d1, hj, hji, hnij, hj0, hjl, hjz, hjp, hjg, w6, d3]; rfl) rfl ?_
     refine yw9 6 (by simp [lmC, i0, d1, hj, hji, hnij, hj0, hjl, hjz, hjp, hjg, w6, d3]; rfl) rfl ?_
     refine yw9 6 (by simp [lmC, i0, d1, hj, hji, hnij, hj0, hjl, hjz, hjp, hjg, w6, d3]; rfl) rfl ?_
     refine yw9 6 (by simp [lmC, i0, d1, hj, hji, hnij, hj0, hjl, hjz, hjp, hjg, w6, d3]; rfl) rfl ?_
     refine yv9 (by simp [lmC, i0, d1, hj, hji, hnij, hj0, hjl, hjz, hjp, hjg, w6, d3]; rfl) ?_
     simp [yp9, lmC, seg2, paS, i0, d1, hj, hji, hnij, hj0, hjl, hjz, hjp, hjg, w6, d3]
    refine vh9 [1, 3, 7, 8, 9, 5, 84] mx (by decide +kernel) ?_
    refine yw9 6 (by simp [lmC, i0, d1, hj, hji, hnij, hj0, hjl, hjz, hjp, hjg, w6, d3]; rfl) rfl ?_
    refine yw9 6 (by simp [lmC, i0, d1, hj, hji, hnij, hj0, hjl, hjz, hjp, hjg, w6, d3]; rfl) rfl ?_
    refine yw9 6 (by simp [lmC, i0, d1, hj, hji, hnij, hj0, hjl, hjz, hjp, hjg, w6, d3]; rfl) rfl ?_
    refine yw9 6 (by simp [lmC, i0, d1, hj, hji, hnij, hj0, hjl, hjz, hjp, hjg, w6, d3]; rfl) rfl ?_
    refine yv9 (by simp [lmC, i0, d1, hj, hji, hnij, hj0, hjl, hjz, hjp, hjg, w6, d3]; rfl) ?_
    simp [yp9, lmC, seg2, paS, i0, d1, hj, hji, hnij, hj0, hjl, hjz, hjp, hjg, w6, d3]
   rintro _ rfl
   by_cases h2 : seg2 m.seg i s = true
   ·rw [if_pos h2] at hgo
    rw [h2]
    refine yd9 rfl (fun h => ?_) (fun h => by simp at h)
    refine yt9 [2] (by simp; rfl) ?_
    refine zr9 ?_
    repeat (first | refine yl9 ?_ | refine yc9 ?_)
    exact hret hgo.symm _
   have h2f : seg2 m.seg i s = false := by simpa using h2
   rw [h2f]
   refine yd9 rfl (fun h => by simp at h) (fun h => ?_)
   refine zt9 [1, 3, 7, 8, 9, 5] ?_
   refine yh9 ?_
   simp [yp9, h2f]
  rintro _ ⟨h2f, rfl⟩
  rw [if_neg (by simp [h2f])] at hgo
  have w7 : IntKind.i64.wrap (fr + s.len) = fr + s.len := w64 (by omega) (by omega)
  refine zs9 [1, 3, 7, 8, 9] (by simp [w7, lmC, ys9, AV.weakL, AV.weak, AV.koneL, AV.kone]; rfl) ?_
  refine xd9 1 (Nat.zero_le _) (by simp) (by simp [yn9, AV.under, AV.underL]) (by simp [yg9, AObj.under, lmC, AV.under, AV.underL]) ?_
  refine zs9 [1, 3, 7, 8, 9] (by simp [wi]; rfl) ?_
  refine ⟨_, by omega, i + 1, fr + s.len, rfl, by omega, hgo, by omega, by omega, fun j t hj ht => ?_, by simp [lmC]⟩
  by_cases hjj : j < i
  ·exact hall j t hjj ht
  ·have : j = i := by omega
   subst this
   rw [hs] at ht
   obtain rfl := Option.some.inj ht
   exact ⟨by omega, by omega, by omega, by omega⟩
 have hie : i = m.seg.length := by omega
 have hRs : R = some fr := by rw [← hgo, hie, List.drop_length, yr8]
 rw [hRs] at hS
 refine yt9 [1, 3, 7, 8, 9, 10] (by simp [c]; rfl) ?_
 refine yk9 ?_
 refine yd9 rfl (fun h => by simp at h) (fun h => ?_)
 refine zh9 ?_
 refine xg9 (fun σ => σ = ⟨107, [(2, .v (.bool (segM m)))], [.cells 40 (lmC m)]⟩) ?_ ?_
 ·by_cases z1 : ¬ 1 ≤ m.seg.length
  ·have z1i : ¬ (1 : Int) ≤ m.seg.length := by omega
   refine W_rE [2] ?_
   refine yq9 6 (by simp [lmC, z1, z1i]; rfl) rfl ?_
   refine yq9 6 (by simp [lmC, z1, z1i]; rfl) rfl ?_
   refine yq9 6 (by simp [lmC, z1, z1i]; rfl) rfl ?_
   refine yr9 (by simp [lmC, z1, z1i]; rfl) ?_
   simp [yp9, lmC, hS, segF, z1, z1i]
  have z1p : (1 : Int) ≤ m.seg.length := by omega
  have z1q : 1 ≤ m.seg.length := by omega
  by_cases z2 : ¬ m.seg.length ≤ 64
  ·have z2i : ¬ (m.seg.length : Int) ≤ 64 := by omega
   refine W_rE [2] ?_
   refine yq9 6 (by simp [lmC, z1p, z1q, z2, z2i]; rfl) rfl ?_
   refine yq9 6 (by simp [lmC, z1p, z1q, z2, z2i]; rfl) rfl ?_
   refine yq9 6 (by simp [lmC, z1p, z1q, z2, z2i]; rfl) rfl ?_
   refine yr9 (by simp [lmC, z1p, z1q, z2, z2i]; rfl) ?_
   simp [yp9, lmC, hS, segF, z1p, z1q, z2, z2i]
  have z2p : (m.seg.length : Int) ≤ 64 := by omega
  have z2q : m.seg.length ≤ 64 := by omega
  by_cases z3 : ¬ fr = (m.text.length : Int)
  ·refine W_rE [2] ?_
   refine yq9 6 (by simp [lmC, z1p, z1q, z2p, z2q, z3]; rfl) rfl ?_
   refine yq9 6 (by simp [lmC, z1p, z1q, z2p, z2q, z3]; rfl) rfl ?_
   refine yq9 6 (by simp [lmC, z1p, z1q, z2p, z2q, z3]; rfl) rfl ?_
   refine yr9 (by simp [lmC, z1p, z1q, z2p, z2q, z3]; rfl) ?_
   simp [yp9, lmC, hS, segF, z1p, z1q, z2p, z2q, z3]
  have z3p : fr = (m.text.length : Int) := by omega
  refine W_rE [2] ?_
  refine yq9 6 (by simp [lmC, z1p, z1q, z2p, z2q, z3p]; rfl) rfl ?_
  refine yq9 6 (by simp [lmC, z1p, z1q, z2p, z2q, z3p]; rfl) rfl ?_
  refine yq9 6 (by simp [lmC, z1p, z1q, z2p, z2q, z3p]; rfl) rfl ?_
  refine yr9 (by simp [lmC, z1p, z1q, z2p, z2q, z3p]; rfl) ?_
  simp [yp9, lmC, hS, segF, z1p, z1q, z2p, z2q, z3p]
 rintro _ rfl
 refine zr9 ?_
 repeat (first | refine yl9 ?_ | refine yc9 ?_)
 simp [retQ]
end Go.AM
