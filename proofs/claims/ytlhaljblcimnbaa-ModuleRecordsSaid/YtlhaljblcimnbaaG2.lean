/- Parts of the walk: C31G C31H C31I C31J P38A C31K C31L. -/
import Derived.Test.YtlhaljblcimnbaaG1
namespace Go.AM
open Go.RowKit Go.Proofs
set_option linter.unusedSimpArgs false
set_option linter.unusedVariables false
set_option maxHeartbeats 4000000
theorem decodeN_big (n b0 b1 b2 b3 : Nat) (h : 128 ≤ b0) : 128 ≤ (Lib.decodeN n b0 b1 b2 b3).1 := by
 unfold Lib.decodeN
 rw [if_neg (by omega)]
 repeat' split
 all_goals first | (simp; done) | (dsimp only; omega)
theorem okC_big {r : Int} (h : 128 ≤ r) : okC r = false := by
 simp only [okC, Bool.or_eq_false_iff, decide_eq_false_iff_not]
 omega
theorem symFrom_all (s : ByteArray) : ∀ (f pos : Nat), s.size ≤ pos + f → (symFrom s f pos = -1 ↔ ∀ j, pos ≤ j → j < s.size → okC ((s.get! j).toNat : Nat) = true)
 | 0, pos, h => by
  rw [symFrom]
  exact ⟨fun _ j h1 h2 => by omega, fun _ => rfl⟩
 | f + 1, pos, h => by
  rw [symFrom]
  by_cases hp : pos < s.size
  ·rw [if_pos hp]
   have hd := Lib.decode_at s pos
   by_cases hb : (s.get! pos).toNat < 128
   ·have h1 : Utf8.decode s pos = ((s.get! pos).toNat, 1) := by rw [hd, Lib.decodeN, if_pos hb]
    rw [h1]
    by_cases ho : okC ((s.get! pos).toNat : Nat) = true
    ·rw [if_pos ho, symFrom_all s f (pos + 1) (by omega)]
     refine ⟨fun h2 j h3 h4 => ?_, fun h2 j h3 h4 => h2 j (by omega) h4⟩
     by_cases hj : j = pos
     ·subst hj; exact ho
     ·exact h2 j (by omega) h4
    ·rw [if_neg ho]
     exact ⟨fun h2 => by omega, fun h2 => absurd (h2 pos (Nat.le_refl _) hp) ho⟩
   ·have hbig : 128 ≤ (Utf8.decode s pos).1 := by rw [hd]; exact decodeN_big _ _ _ _ _ (by omega)
    rw [if_neg (by rw [okC_big (by omega)]; simp)]
    refine ⟨fun h2 => by omega, fun h2 => ?_⟩
    have := h2 pos (Nat.le_refl _) hp
    rw [okC_big (by omega)] at this
    cases this
  ·rw [if_neg hp]
   exact ⟨fun _ j h1 h2 => by omega, fun _ => rfl⟩
theorem if120_sound (s : ByteArray) : Sound Try.prog 120 [.v (.string s), .fn (.func 116) [] [], .v (.bool true)] (.v (.int .i64 (symFrom s s.size 0))) := by
 refine ⟨⟨_, Try.func120, by decide +kernel, by kernel_rfl⟩, fun F n c w vals T hF hro hT hb ra => ?_⟩
 cases ra with
 | cons h1 _ r1 =>
 cases r1 with
 | cons h2 _ r2 =>
 cases r2 with
 | cons h3 _ r3 =>
 cases r3
 have e1 := h1.v_inv
 have e3 := h3.v_inv
 subst e1 e3
 cases h2 with
 | @fn f l1 l2 v1 v2 g1 g2 _ _ =>
 have z1 : v1 = #[] := Array.eq_empty_of_size_eq_zero (by rw [← g1]; rfl)
 have z2 : v2 = #[] := Array.eq_empty_of_size_eq_zero (by rw [← g2]; rfl)
 subst z1 z2
 refine (callsIn_of_calls hF (calls120 s w)).mono ?_
 rintro e w' ⟨rfl, hb2⟩
 exact ⟨_, c, rfl, ⟨rfl, rfl, rfl, hb2.os, hb2.tape, hb2.output, hb2.size, hb2.block, fun _ _ => rfl, fun _ _ => rfl⟩, .v _, .none rfl⟩
theorem if119_sound (s : ByteArray) : Sound Try.prog 119 [.v (.string s), .fn (.func 116) [] []] (.v (.int .i64 (symFrom s s.size 0))) := by
 refine sound_of_W Try.func119 rfl (by decide +kernel) (by simp [Try.f119]) rfl rfl (rs := [.tmp 4]) rfl ?_
 rw [show Try.f119.ntmps = 8 from rfl]
 refine W_evK [0, 1] (by simp; rfl) ?_
 refine W_rK [4] ?_
 refine runA_pre 2 (by simp; rfl) rfl ?_
 refine runA_call (by simp) (by first | (simp; done) | (simp; rfl)) (if120_sound s) (by simp; rfl) ?_
 refine runA_fin (by simp; rfl) ?_
 refine W_ret ?_
 repeat (first | refine on_ret ?_ | refine in_ret ?_)
 simp [retQ]
theorem cf115_sound (s : ByteArray) : Sound Try.prog 115 [.v (.string s), .fn (.func 116) [] []] (.v (.bool (decide (0 ≤ symFrom s s.size 0)))) := by
 refine sound_of_W Try.func115 rfl (by decide +kernel) (by simp [Try.f115]) rfl rfl (rs := [.tmp 4]) rfl ?_
 rw [show Try.f115.ntmps = 9 from rfl]
 refine W_evK [0, 1] (by simp; rfl) ?_
 refine W_rK [4] ?_
 refine runA_pre 2 (by simp; rfl) rfl ?_
 refine runA_call (by simp) (by first | (simp; done) | (simp; rfl)) (if119_sound s) (by simp; rfl) ?_
 refine runA_fin (by simp; rfl) ?_
 refine W_ret ?_
 repeat (first | refine on_ret ?_ | refine in_ret ?_)
 simp [retQ]
theorem symFrom_lo (s : ByteArray) : ∀ (f pos : Nat), symFrom s f pos = -1 ∨ 0 ≤ symFrom s f pos
 | 0, pos => .inl rfl
 | f + 1, pos => by
  rw [symFrom]
  split
  ·split
   ·exact symFrom_lo s f _
   ·exact .inr (by omega)
  ·exact .inl rfl
@[simp] theorem sz_mk (l : List UInt8) : (ByteArray.mk l.toArray).size = l.length := by simp [ByteArray.size]
@[simp] theorem strA_eqlB (a b : List UInt8) : strA .eql ⟨a.toArray⟩ ⟨b.toArray⟩ = some (.v (.bool (a == b))) := by simp [strA, Lib.toList_data]
@[simp] theorem strA_neqB (a b : List UInt8) : strA .neq ⟨a.toArray⟩ ⟨b.toArray⟩ = some (.v (.bool (!(a == b)))) := by simp [strA, Lib.toList_data]
@[simp] theorem strA_eql0 (a : List UInt8) : strA .eql ⟨a.toArray⟩ ⟨#[]⟩ = some (.v (.bool (a == []))) := strA_eqlB a []
@[simp] theorem strA_neq0 (a : List UInt8) : strA .neq ⟨a.toArray⟩ ⟨#[]⟩ = some (.v (.bool (!(a == [])))) := strA_neqB a []
theorem get_mk (l : List UInt8) (j : Nat) (h : j < l.length) : (ByteArray.mk l.toArray).get! j = l[j] := by
 simp [ByteArray.get!, h]
def okB (b : UInt8) : Bool := okC (b.toNat : Nat)
def digB (b : UInt8) : Bool := decide (48 ≤ b.toNat) && decide (b.toNat ≤ 57)
def symM (l : List UInt8) : Bool := decide (1 ≤ l.length) && (decide (l.length ≤ 8) && (!(digB (l.headD 0)) && l.all okB))
theorem cont_eq (l : List UInt8) : decide (0 ≤ symFrom ⟨l.toArray⟩ (ByteArray.mk l.toArray).size 0) = !(l.all okB) := by
 have h1 := symFrom_all ⟨l.toArray⟩ (ByteArray.mk l.toArray).size 0 (by omega)
 have h2 := symFrom_lo ⟨l.toArray⟩ (ByteArray.mk l.toArray).size 0
 rw [sz_mk] at h1 h2 ⊢
 have h3 : (∀ j, 0 ≤ j → j < l.length → okC (((ByteArray.mk l.toArray).get! j).toNat : Nat) = true) ↔ l.all okB = true := by
  rw [List.all_eq_true]
  constructor
  ·intro h b hb
   obtain ⟨j, hj, rfl⟩ := List.mem_iff_getElem.1 hb
   have := h j (Nat.zero_le _) hj
   rwa [get_mk l j hj] at this
  ·intro h j _ hj
   rw [get_mk l j hj]
   exact h _ (List.getElem_mem hj)
 rw [h3] at h1
 cases ha : l.all okB with
 | true =>
  have := h1.2 ha
  rw [this]
  rfl
 | false =>
  have hne : ¬ symFrom ⟨l.toArray⟩ l.length 0 = -1 := fun h => by rw [h1.1 h] at ha; cases ha
  have : 0 ≤ symFrom ⟨l.toArray⟩ l.length 0 := by omega
  simp [this]
theorem symbol_sound (l : List UInt8) (hl : l.length ≤ 9223372036854775807) : Sound Try.prog 106 [strB l] (.v (.bool (symM l))) := by
 refine sound_of_W Try.func106 rfl (by decide +kernel) (by simp [Try.f106]) rfl rfl (rs := [.tmp 2]) rfl ?_
 rw [show Try.f106.ntmps = 25 from rfl]
 have hcf := cf115_sound ⟨l.toArray⟩
 rw [cont_eq] at hcf
 simp only [strB]
 refine W_evK [0] (by simp; rfl) ?_
 refine W_rK [2] ?_
 by_cases hnil : l = []
 ·subst hnil
  refine runA_pre 12 (by simp; rfl) rfl ?_
  refine runA_pre 7 (by simp; rfl) rfl ?_
  refine runA_fin (by simp; rfl) ?_
  refine W_ret ?_
  repeat (first | refine on_ret ?_ | refine in_ret ?_)
  simp [retQ, symM]
 have hne : (l == []) = false := beq_eq_false_iff_ne.2 hnil
 have hpos : 0 < l.length := List.length_pos_iff.2 hnil
 have h1 : 1 ≤ l.length := hpos
 obtain ⟨b, hb⟩ : ∃ b, l[0]? = some b := ⟨_, List.getElem?_eq_getElem hpos⟩
 have hb2 : l[0]'hpos = b := by rw [List.getElem?_eq_getElem hpos] at hb; exact Option.some.inj hb
 have hhd : l.head?.getD 0 = b := by rw [List.head?_eq_getElem?, hb]; rfl
 by_cases h8 : l.length ≤ 8
 ·have h8' : (l.length : Int) ≤ 8 := by omega
  by_cases d1 : b.toNat < 48
  ·have d1' : (b.toNat : Int) < 48 := by omega
   have hd : digB b = false := by simp [digB]; omega
   refine runA_pre 12 (by simp [hne, h8, h8', hb, hb2, hpos, d1, d1']; rfl) rfl ?_
   refine runA_pre 7 (by simp [hne, h8, h8', hb, hb2, hpos, d1, d1']; rfl) rfl ?_
   refine runA_call (by simp) (by first | (simp; done) | (simp; rfl)) hcf (by simp; rfl) ?_
   refine runA_fin (by simp; rfl) ?_
   refine W_ret ?_
   repeat (first | refine on_ret ?_ | refine in_ret ?_)
   simp [retQ, symM, h1, h8, hhd, hd]
  ·have d1' : ¬ (b.toNat : Int) < 48 := by omega
   by_cases d2 : 57 < b.toNat
   ·have d2' : (57 : Int) < b.toNat := by omega
    have hd : digB b = false := by simp [digB]; omega
    refine runA_pre 12 (by simp [hne, h8, h8', hb, hb2, hpos, d1, d1', d2, d2']; rfl) rfl ?_
    refine runA_pre 7 (by simp [hne, h8, h8', hb, hb2, hpos, d1, d1', d2, d2']; rfl) rfl ?_
    refine runA_call (by simp) (by first | (simp; done) | (simp; rfl)) hcf (by simp; rfl) ?_
    refine runA_fin (by simp; rfl) ?_
    refine W_ret ?_
    repeat (first | refine on_ret ?_ | refine in_ret ?_)
    simp [retQ, symM, h1, h8, hhd, hd]
   ·have d2' : ¬ (57 : Int) < b.toNat := by omega
    have hd : digB b = true := by simp [digB]; omega
    refine runA_pre 12 (by simp [hne, h8, h8', hb, hb2, hpos, d1, d1', d2, d2']; rfl) rfl ?_
    refine runA_pre 7 (by simp [hne, h8, h8', hb, hb2, hpos, d1, d1', d2, d2']; rfl) rfl ?_
    refine runA_fin (by simp; rfl) ?_
    refine W_ret ?_
    repeat (first | refine on_ret ?_ | refine in_ret ?_)
    simp [retQ, symM, h1, h8, hhd, hd]
 ·have h8' : ¬ (l.length : Int) ≤ 8 := by omega
  refine runA_pre 12 (by simp [hne, h8, h8', hb, hb2, hpos, hne]; rfl) rfl ?_
  refine runA_pre 7 (by simp [hne, h8, h8', hb, hb2, hpos, hne]; rfl) rfl ?_
  refine runA_fin (by simp; rfl) ?_
  refine W_ret ?_
  repeat (first | refine on_ret ?_ | refine in_ret ?_)
  simp [retQ, symM, h8]
end Go.AM
namespace Go.AM
open Go.RowKit Go.Proofs
set_option linter.unusedSimpArgs false
set_option linter.unusedVariables false
set_option maxHeartbeats 4000000
def cdM (b : UInt8) : UInt8 × Bool := if b.toNat < 32 ∨ 126 < b.toNat then (0, false) else (codesL.getD (b.toNat - 32) 0, true)
theorem code112_sound (b : UInt8) : Sound Try.prog 112 [.v (.int .u8 b.toNat)] (.tup [.v (.int .u8 (cdM b).1.toNat), .v (.bool (cdM b).2)]) := by
 refine sound_of_W Try.func112 rfl (by decide +kernel) (by simp [Try.f112]) rfl rfl (rs := [.tmp 2, .tmp 3]) rfl ?_
 rw [show Try.f112.ntmps = 13 from rfl]
 refine W_evK [0] (by simp; rfl) ?_
 refine W_seq ?_
 have hlt := b.toNat_lt
 by_cases h1 : b.toNat < 32
 ·have h1' : (b.toNat : Int) < 32 := by omega
  refine W_evK [0, 9] (by simp [h1, h1']; rfl) ?_
  refine W_cond rfl (fun h => ?_) (fun h => by simp at h)
  refine W_evK [2, 3] (by simp; rfl) ?_
  refine W_ret ?_
  repeat (first | refine on_ret ?_ | refine in_ret ?_)
  simp [retQ, cdM, h1]
 have h1' : ¬ (b.toNat : Int) < 32 := by omega
 by_cases h2 : 126 < b.toNat
 ·have h2' : (126 : Int) < b.toNat := by omega
  refine W_evK [0, 9] (by simp [h1, h1', h2, h2']; rfl) ?_
  refine W_cond rfl (fun h => ?_) (fun h => by simp at h)
  refine W_evK [2, 3] (by simp; rfl) ?_
  refine W_ret ?_
  repeat (first | refine on_ret ?_ | refine in_ret ?_)
  simp [retQ, cdM, h2]
 have h2' : ¬ (126 : Int) < b.toNat := by omega
 have w1 : IntKind.u8.wrap ((b.toNat : Int) - 32) = ((b.toNat - 32 : Nat) : Int) := by
  simp only [IntKind.wrap_u8]
  omega
 refine W_evK [0, 9] (by simp [h1, h1', h2, h2']; rfl) ?_
 refine W_cond rfl (fun h => by simp at h) (fun h => ?_)
 refine W_skip ?_
 obtain ⟨k, hk⟩ : ∃ k, b.toNat - 32 = k := ⟨_, rfl⟩
 have hk95 : k < codesL.length := by show k < 95; omega
 have hg : codesL[k]? = some (codesL.getD k 0) := by
  rw [List.getD_eq_getElem?_getD, List.getElem?_eq_getElem hk95]; rfl
 have hM : cdM b = (codesL.getD k 0, true) := by rw [cdM, if_neg (by omega), hk]
 rw [hk] at w1
 rw [hM]
 obtain ⟨cd, hcd⟩ : ∃ cd, codesL.getD k 0 = cd := ⟨_, rfl⟩
 rw [hcd] at hg ⊢
 have hg' := hg
 simp only [codesL] at hg'
 refine W_evK [2, 3] (by simp [w1, -List.append_eq]; rw [hg']; rfl) ?_
 refine W_ret ?_
 repeat (first | refine on_ret ?_ | refine in_ret ?_)
 simp [retQ]
def encOk (l : List UInt8) : Bool := l.all fun b => (cdM b).2
def enc1 (l : List UInt8) : List UInt8 := l.map fun b => (cdM b).1
def encM (l : List UInt8) : List UInt8 × Int := if encOk l then (enc1 l, 0) else ([], 20)
theorem encOk_false {l : List UInt8} {i : Nat} {b : UInt8} (h : l[i]? = some b) (hb : (cdM b).2 = false) : encOk l = false := by
 rw [encOk, List.all_eq_false]
 exact ⟨b, List.mem_of_getElem? h, by simp [hb]⟩
theorem repC_byL31 (n : Nat) : repC n [AV.v (.int .u8 0)] = byL (List.replicate n 0) := by
 induction n with
 | zero => rfl
 | succ n ih => simp only [repC, ih, List.replicate_succ, byL_cons]; rfl
theorem extend_sound (l : List UInt8) (hl : l.length ≤ 1000000) : Sound Try.prog 102 [strB l, .v (.int .i64 (l.length : Nat))] (.tup [.lst .any 1 (byL (encM l).1), .v (.int .i64 (encM l).2)]) := by
 refine sound_of_N Try.func102 rfl (by decide +kernel) (by simp [Try.f102]) rfl rfl (rs := [.tmp 4, .tmp 5]) rfl ?_
 rw [show Try.f102.ntmps = 39 from rfl]
 simp only [strB]
 have hm1 : (l.length : Int) ≤ 140737488355328 := by omega
 refine W_evK [0, 1] (by simp; rfl) ?_
 refine W_evK [0, 6] (by simp [repC_byL31, show (l.length : Int) ≤ 281474976710656 by omega, show (l.length : Int) ≤ 9223372036854775807 by omega]; rfl) ?_
 refine W_seq ?_
 refine W_evK [0, 6, 13, 14] (by simp; rfl) ?_
 refine W_block ?_
 refine W_loop (fun k s => ∃ (i : Nat), k = l.length - i ∧ i ≤ l.length ∧ encOk (l.take i) = true ∧
  s = ⟨39, [(0, .v (.string ⟨l.toArray⟩)), (6, .arr 0 0 l.length l.length), (13, .v (.int .i64 (l.length : Nat))), (14, .v (.int .i64 (i : Nat)))], [.cells 5 (byL (enc1 (l.take i) ++ List.replicate (l.length - i) 0))]⟩) (k := l.length) ⟨0, rfl, by omega, by simp [encOk], by simp [enc1]⟩ ?_
 rintro k s ⟨i, rfl, hi, hok, rfl⟩
 by_cases c : i < l.length
 ·have ci : (i : Int) < l.length := by omega
  obtain ⟨b, hb⟩ : ∃ b, l[i]? = some b := ⟨_, List.getElem?_eq_getElem c⟩
  have hb2 : l[i]'c = b := by rw [List.getElem?_eq_getElem c] at hb; exact Option.some.inj hb
  have wi := w64 (n := (i : Int) + 1) (by omega) (by omega)
  have hnl : ¬ (l.length : Int) ≤ i := by omega
  have hlen : (enc1 (l.take i)).length = i := by simp [enc1]; omega
  have hlen2 : i + 1 ≤ (enc1 (l.take i) ++ List.replicate (l.length - i) (0 : UInt8)).length := by simp [hlen]; omega
  have hset : ∀ (x : UInt8) (y : UInt8), setSeg (setSeg (byL (enc1 (l.take i) ++ List.replicate (l.length - i) 0)) i [.v (.int .u8 x.toNat)]) i [.v (.int .u8 y.toNat)] = byL (enc1 (l.take i) ++ [y] ++ List.replicate (l.length - (i + 1)) 0) := by
   intro x y
   obtain ⟨m, hm⟩ : ∃ m, l.length - i = m + 1 := ⟨l.length - i - 1, by omega⟩
   have hm2 : l.length - (i + 1) = m := by omega
   have hlb : (byL (enc1 (l.take i))).length = i := by simp [hlen]
   rw [hm, hm2, List.replicate_succ]
   have e1 : ∀ (z w : UInt8) (r : List UInt8), setSeg (byL (enc1 (l.take i) ++ z :: r)) i [.v (.int .u8 w.toNat)] = byL (enc1 (l.take i) ++ w :: r) := by
    intro z w r
    have h1 : byL (enc1 (l.take i) ++ z :: r) = byL (enc1 (l.take i)) ++ (.v (.int .u8 z.toNat) :: byL r) := by simp [byL]
    have h2 : byL (enc1 (l.take i) ++ w :: r) = byL (enc1 (l.take i)) ++ (.v (.int .u8 w.toNat) :: byL r) := by simp [byL]
    rw [h1, h2]
    unfold setSeg
    rw [List.take_left' hlb, List.drop_append]
    simp [hlb]
   rw [e1, e1]
   simp
  refine W_evK [0, 6, 13, 14, 15] (by simp [c]; rfl) ?_
  refine W_seq ?_
  refine W_cond rfl (fun h => ?_) (fun h => by simp at h)
  refine W_skip ?_
  refine W_seq ?_
  refine W_block ?_
  refine W_evK [0, 6, 13, 14, 7] (by simp; rfl) ?_
  refine W_evK [0, 6, 13, 14, 7] (by simp [c, ci, hlen, show i + 1 ≤ i + (l.length - i) by omega]; rfl) ?_
  refine W_seq ?_
  refine W_evK [0, 6, 13, 14, 7, 23] (by simp [hnl, show ¬ l.length ≤ i by omega]; rfl) ?_
  refine W_cond rfl (fun h => by simp at h) (fun h => ?_)
  refine W_skip ?_
  refine W_rK [0, 6, 13, 14, 7, 8, 9] ?_
  refine runA_pre 3 (by simp [c, ci, hb, hb2]; rfl) rfl ?_
  refine runA_call (by simp) (by first | (simp; done) | (simp; rfl)) (code112_sound b) (by simp; rfl) ?_
  refine runA_fin (by simp; rfl) ?_
  refine W_seq ?_
  cases hcd : (cdM b).2 with
  | false =>
   have hM : encM l = ([], 20) := by rw [encM, encOk_false hb hcd]; rfl
   refine W_evK [0, 6, 13, 14, 7, 8, 32] (by simp [hcd]; rfl) ?_
   refine W_cond rfl (fun h => ?_) (fun h => by simp at h)
   refine W_evK [4, 5] (by simp; rfl) ?_
   refine W_ret ?_
   repeat (first | refine on_ret ?_ | refine in_ret ?_)
   exact ⟨_, by simp [retQ]; exact ⟨rfl, by simp⟩, .inr (by simp [hM])⟩
  | true =>
   have htk : encOk (l.take (i + 1)) = true := by
    rw [List.take_add_one, hb, encOk, List.all_append]
    simp only [Option.toList_some, List.all_cons, hcd, List.all_nil, Bool.and_self, Bool.and_true]
    exact hok
   have he : enc1 (l.take (i + 1)) = enc1 (l.take i) ++ [(cdM b).1] := by rw [List.take_add_one, hb]; simp [enc1]
   refine W_evK [0, 6, 13, 14, 7, 8, 32] (by simp [hcd]; rfl) ?_
   refine W_cond rfl (fun h => by simp at h) (fun h => ?_)
   refine W_skip ?_
   refine W_evE [0, 6, 13, 14] (by simp [c, ci, hlen, setSeg_length, show i + 1 ≤ i + (l.length - i) by omega]; rfl) ?_
   refine W_evE [0, 6, 13, 14] (by simp [wi]; rfl) ?_
   refine ⟨_, by omega, i + 1, rfl, by omega, htk, ?_⟩
   rw [he]
   have := hset 64 (cdM b).1
   simp at this ⊢
   exact this
 have hie : i = l.length := by omega
 subst hie
 rw [List.take_length] at hok
 have hM : encM l = (enc1 l, 0) := by rw [encM, hok]; rfl
 rw [List.take_length, Nat.sub_self, List.replicate_zero, List.append_nil]
 refine W_evK [0, 6, 13, 14, 15] (by simp; rfl) ?_
 refine W_seq ?_
 refine W_cond rfl (fun h => by simp at h) (fun h => ?_)
 refine W_exit ?_
 have hle : (enc1 l).length = l.length := by simp [enc1]
 refine W_evK [4, 5] (by simp; rfl) ?_
 refine W_ret ?_
 repeat (first | refine on_ret ?_ | refine in_ret ?_)
 exact ⟨_, by simp [retQ, frzArr, hle]; exact ⟨rfl, rfl⟩, .inr (by simp [hM, hle, List.take_of_length_le (Nat.le_of_eq hle)])⟩
theorem encode_sound (l : List UInt8) (hl : l.length ≤ 1000000) : Sound Try.prog 86 [strB l] (.tup [.lst .any 1 (byL (encM l).1), .v (.int .i64 (encM l).2)]) := by
 refine sound_of_N Try.func86 rfl (by decide +kernel) (by simp [Try.f86]) rfl rfl (rs := [.tmp 2, .tmp 3]) rfl ?_
 rw [show Try.f86.ntmps = 10 from rfl]
 have he := extend_sound l hl
 simp only [strB] at he ⊢
 refine W_evK [0] (by simp; rfl) ?_
 refine W_rK [2, 3] ?_
 refine runA_pre 3 (by simp; rfl) rfl ?_
 refine runA_call (by simp) (by first | (simp; done) | (simp; rfl)) he (by simp; rfl) ?_
 refine runA_fin (by simp; rfl) ?_
 refine W_ret ?_
 repeat (first | refine on_ret ?_ | refine in_ret ?_)
 exact ⟨_, by simp [retQ]; exact ⟨rfl, by simp⟩, .inr (by simp)⟩
theorem codeS_sound (l : List UInt8) (hl : l.length ≤ 1000000) : Sound Try.prog 52 [strB l] (.lst .any 1 (byL (encM l).1)) := by
 refine sound_of_N Try.func52 rfl (by decide +kernel) (by simp [Try.f52]) rfl rfl (rs := [.tmp 2]) rfl ?_
 rw [show Try.f52.ntmps = 11 from rfl]
 have he := encode_sound l hl
 simp only [strB] at he ⊢
 refine W_evK [0] (by simp; rfl) ?_
 refine W_rK [3] ?_
 refine runA_pre 1 (by simp; rfl) rfl ?_
 refine runA_call (by simp) (by first | (simp; done) | (simp; rfl)) he (by simp; rfl) ?_
 refine runA_fin (by simp; rfl) ?_
 refine W_evK [2] (by simp; rfl) ?_
 refine W_ret ?_
 repeat (first | refine on_ret ?_ | refine in_ret ?_)
 exact ⟨_, by simp [retQ]; exact ⟨rfl, by simp⟩, .inr (by simp)⟩
end Go.AM
namespace Go.AM
open Go.RowKit Go.Proofs
set_option linter.unusedSimpArgs false
set_option linter.unusedVariables false
set_option maxHeartbeats 4000000
end Go.AM
namespace Go.AM
open Go.RowKit Go.Proofs
set_option linter.unusedSimpArgs false
set_option linter.unusedVariables false
set_option maxHeartbeats 4000000
def numM : Nat → Nat → List UInt8
 | 0, _ => []
 | n + 1, v => numM n (v / 256) ++ [UInt8.ofNat (v % 256)]
@[simp] theorem numM_length : ∀ (n v : Nat), (numM n v).length = n
 | 0, _ => rfl
 | n + 1, v => by simp [numM, numM_length n]
theorem u8n (n : Nat) : IntKind.u8.wrap (n : Int) = ((UInt8.ofNat (n % 256)).toNat : Nat) := by
 rw [UInt8.toNat_ofNat']
 simp only [IntKind.wrap_u8]
 omega
theorem shr8 (v : Nat) : ((v : Int).fdiv (2 ^ min 8 IntKind.i64.bits)) = ((v / 256 : Nat) : Int) := by
 have : min 8 IntKind.i64.bits = 8 := by decide
 rw [this, Int.fdiv_eq_ediv_of_nonneg _ (by omega)]
 omega
theorem set_num (j : Nat) (tl : List UInt8) (b : UInt8) : setSeg (byL (List.replicate (j + 1) 0 ++ tl)) j [.v (.int .u8 b.toNat)] = byL (List.replicate j 0 ++ b :: tl) := by
 have h1 : byL (List.replicate (j + 1) 0 ++ tl) = byL (List.replicate j 0) ++ (.v (.int .u8 (0 : UInt8).toNat) :: byL tl) := by
  rw [List.replicate_succ']; simp [byL]
 have h2 : byL (List.replicate j 0 ++ b :: tl) = byL (List.replicate j 0) ++ (.v (.int .u8 b.toNat) :: byL tl) := by simp [byL]
 have hl : (byL (List.replicate j 0)).length = j := by simp
 rw [h1, h2]
 unfold setSeg
 rw [List.take_left' hl, List.drop_append]
 simp [hl]
theorem num_sound (v n : Nat) (hv : v ≤ 9223372036854775807) (hn : n ≤ 100) : Sound Try.prog 46 [.v (.int .i64 v), .v (.int .i64 n)] (.lst .any 1 (byL (numM n v))) := by
 refine sound_of_N Try.func46 rfl (by decide +kernel) (by simp [Try.f46]) rfl rfl (rs := [.tmp 4]) rfl ?_
 rw [show Try.f46.ntmps = 23 from rfl]
 have wn : IntKind.i64.wrap ((n : Int) - 1) = (n : Int) - 1 := w64 (by omega) (by omega)
 refine W_evK [0, 1] (by simp; rfl) ?_
 refine W_evK [0, 1, 5] (by simp [repC_byL31, show (n : Int) ≤ 281474976710656 by omega, show (n : Int) ≤ 9223372036854775807 by omega]; rfl) ?_
 refine W_seq ?_
 refine W_evK [0, 5, 6] (by simp [wn]; rfl) ?_
 refine W_block ?_
 refine W_loop (fun j s => ∃ (w : Nat) (tl : List UInt8), w ≤ 9223372036854775807 ∧ j + tl.length = n ∧ numM n v = numM j w ++ tl ∧
  s = ⟨23, [(0, .v (.int .i64 (w : Nat))), (5, .arr 0 0 n n), (6, .v (.int .i64 ((j : Int) - 1)))], [.cells 5 (byL (List.replicate j 0 ++ tl))]⟩) (k := n) ⟨v, [], hv, by simp, by simp, by simp⟩ ?_
 rintro j s ⟨w, tl, hw, hj, hnum, rfl⟩
 refine W_seq ?_
 cases j with
 | zero =>
  refine W_evK [0, 5, 6, 12] (by simp; rfl) ?_
  refine W_cond rfl (fun h => by simp at h) (fun h => ?_)
  refine W_exit ?_
  refine W_evK [4] (by simp; rfl) ?_
  refine W_ret ?_
  repeat (first | refine on_ret ?_ | refine in_ret ?_)
  have htl : tl = numM n v := by rw [hnum]; rfl
  have hle : (numM n v).length = n := numM_length n v
  subst htl
  exact ⟨_, by simp [retQ, frzArr]; exact ⟨rfl, rfl⟩, .inr (by simp [List.take_of_length_le (Nat.le_of_eq hle)])⟩
 | succ j =>
  have hjn : j < n := by omega
  have e1 : ((j + 1 : Nat) : Int) - 1 = (j : Int) := by omega
  have hjI : (j : Int) < n := by omega
  have wj : IntKind.i64.wrap ((j : Int) - 1) = (j : Int) - 1 := w64 (by omega) (by omega)
  have hlen : j + 1 ≤ (List.replicate (j + 1) (0 : UInt8) ++ tl).length := by simp
  rw [e1]
  have hsh := shr8 w
  have hu := u8n w
  have hset := set_num j tl (UInt8.ofNat (w % 256))
  obtain ⟨C, hC⟩ : ∃ C, byL (List.replicate (j + 1) (0 : UInt8) ++ tl) = C := ⟨_, rfl⟩
  have hCl : C.length = j + 1 + tl.length := by rw [← hC]; simp
  rw [hC] at hset ⊢
  refine W_evK [0, 5, 6, 12] (by simp; rfl) ?_
  refine W_cond rfl (fun h => ?_) (fun h => by simp at h)
  refine W_skip ?_
  refine W_seq ?_
  refine W_block ?_
  refine W_evK [0, 5, 6] (by simp [hjn, hjI, hu, hCl, show j + 1 ≤ j + 1 + tl.length by omega]; rfl) ?_
  refine W_evE [0, 5, 6] (by simp [hsh, -Int.natCast_ediv]; rfl) ?_
  refine W_evE [0, 5, 6] (by simp [wj]; rfl) ?_
  refine ⟨j, by omega, w / 256, UInt8.ofNat (w % 256) :: tl, by omega, by simp; omega, ?_, ?_⟩
  ·rw [hnum, numM]; simp
  ·have q1 : (w : Int) / 256 = ((w / 256 : Nat) : Int) := by omega
   have q2 : (w : Int) % 256 = ((UInt8.ofNat (w % 256)).toNat : Nat) := by rw [UInt8.toNat_ofNat']; omega
   rw [q1, q2, ← hset]
def valM (l : List UInt8) : Nat := l.foldl (fun v b => v * 256 + b.toNat) 0
theorem valM_snoc (l : List UInt8) (b : UInt8) : valM (l ++ [b]) = valM l * 256 + b.toNat := by simp [valM]
theorem valM_lt : ∀ (n : Nat) (l : List UInt8), l.length = n → valM l < 256 ^ n
 | 0, l, h => by
  have : l = [] := List.length_eq_zero_iff.1 h
  subst this
  simp [valM]
 | n + 1, l, h => by
  have hne : l ≠ [] := by intro e; subst e; simp at h
  have hd := List.dropLast_concat_getLast hne
  have hl : l.dropLast.length = n := by simp [h]
  have ih := valM_lt n l.dropLast hl
  rw [← hd, valM_snoc, Nat.pow_succ]
  have := (l.getLast hne).toNat_lt
  omega
theorem shl_or (v : Nat) (b : Nat) (hv : v * 256 ≤ 9223372036854775807 - 255) (hb : b < 256) : v * 256 ||| b = v * 256 + b := by
 have : v * 256 = 2 ^ 8 * v := by omega
 rw [this, Nat.two_pow_add_eq_or_of_lt (by omega)]
theorem orA (a b : Nat) (ha : a < 9223372036854775808) (hb : b < 9223372036854775808) (hab : a ||| b < 9223372036854775808) : bitsA .or .i64 (a : Int) (b : Int) = some (.v (.int .i64 ((a ||| b : Nat) : Int))) := by
 have h1 : ∀ n : Nat, n < 9223372036854775808 → (BitVec.ofInt IntKind.i64.bits (n : Int)).toNat = n := by
  intro n hn
  rw [BitVec.toNat_ofInt]
  have : ((2 : Int) ^ IntKind.i64.bits) = 18446744073709551616 := by decide
  show ((n : Int) % ((2 ^ IntKind.i64.bits : Nat) : Int)).toNat = n
  have h2 : ((2 ^ IntKind.i64.bits : Nat) : Int) = 18446744073709551616 := by decide
  rw [h2]
  omega
 simp only [bitsA]
 rw [BitVec.toNat_or, h1 a ha, h1 b hb, w64 (by omega) (by omega)]
theorem val_sound (l : List UInt8) (hl : l.length ≤ 7) : Sound Try.prog 63 [.lst .any 1 (byL l)] (.v (.int .i64 (valM l : Nat))) := by
 refine sound_of_W Try.func63 rfl (by decide +kernel) (by simp [Try.f63]) rfl rfl (rs := [.tmp 2]) rfl ?_
 rw [show Try.f63.ntmps = 19 from rfl]
 refine W_evK [0] (by simp; rfl) ?_
 refine W_evK [0, 3] (by simp; rfl) ?_
 refine W_seq ?_
 refine W_evK [3, 6, 7, 8] (by simp; rfl) ?_
 refine W_block ?_
 refine W_loop (fun k s => ∃ (i : Nat), k = l.length - i ∧ i ≤ l.length ∧ s = ⟨19, [(3, .v (.int .i64 (valM (l.take i) : Nat))), (6, .lst .any 1 (byL l)), (7, .v (.int .i64 (l.length : Nat))), (8, .v (.int .i64 (i : Nat)))], []⟩) (k := l.length) ⟨0, rfl, by omega, by simp [valM]⟩ ?_
 rintro k s ⟨i, rfl, hi, rfl⟩
 by_cases c : i < l.length
 ·have ci : (i : Int) < l.length := by omega
  obtain ⟨b, hb⟩ : ∃ b, l[i]? = some b := ⟨_, List.getElem?_eq_getElem c⟩
  have hb2 : l[i]'c = b := by rw [List.getElem?_eq_getElem c] at hb; exact Option.some.inj hb
  have wi := w64 (n := (i : Int) + 1) (by omega) (by omega)
  have hv : valM (l.take (i + 1)) = valM (l.take i) * 256 + b.toNat := by rw [List.take_add_one, hb, Option.toList_some, valM_snoc]
  have hlt := valM_lt i (l.take i) (by simp; omega)
  have hlt2 : valM (l.take i) < 256 ^ 6 := Nat.lt_of_lt_of_le hlt (Nat.pow_le_pow_right (by omega) (by omega))
  have hlt3 : (256 : Nat) ^ 6 = 281474976710656 := by decide
  obtain ⟨V, hV⟩ : ∃ V, valM (l.take i) = V := ⟨_, rfl⟩
  rw [hV] at hv hlt2 ⊢
  refine W_evK [3, 6, 7, 8, 9] (by simp [c]; rfl) ?_
  refine W_seq ?_
  refine W_cond rfl (fun h => ?_) (fun h => by simp at h)
  refine W_skip ?_
  refine W_seq ?_
  refine W_block ?_
  refine W_evK [3, 6, 7, 8, 5] (by simp [c, ci, hb2]; rfl) ?_
  have hbl := b.toNat_lt
  have s1 : IntKind.i64.wrap ((V : Int) * 2 ^ min 8 IntKind.i64.bits) = ((V * 256 : Nat) : Int) := by
   have h8 : ((2 : Int) ^ min 8 IntKind.i64.bits) = 256 := by decide
   rw [h8, w64 (by omega) (by omega)]
   omega
  have s2 : IntKind.i64.wrap (b.toNat : Int) = (b.toNat : Int) := w64 (by omega) (by omega)
  have s3 : V * 256 ||| b.toNat = V * 256 + b.toNat := shl_or V b.toNat (by omega) hbl
  have s4 := orA (V * 256) b.toNat (by omega) (by omega) (by rw [s3]; omega)
  rw [s3] at s4
  refine W_evE [3, 6, 7, 8] (by simp [s1, s2, s4, -Int.natCast_mul, -Int.natCast_add]; rfl) ?_
  refine W_evE [3, 6, 7, 8] (by simp [wi]; rfl) ?_
  exact ⟨_, by omega, i + 1, rfl, by omega, by simp [hv]⟩
 have hie : i = l.length := by omega
 subst hie
 rw [List.take_length]
 refine W_evK [3, 6, 7, 8, 9] (by simp; rfl) ?_
 refine W_seq ?_
 refine W_cond rfl (fun h => by simp at h) (fun h => ?_)
 refine W_exit ?_
 refine W_evK [2] (by simp; rfl) ?_
 refine W_ret ?_
 repeat (first | refine on_ret ?_ | refine in_ret ?_)
 simp [retQ]
end Go.AM
namespace Go.AM
open Go.RowKit Go.Proofs
set_option linter.unusedSimpArgs false
set_option linter.unusedVariables false
set_option maxHeartbeats 1000000
theorem u3 : Try.prog.underlying 3 = some (.int .i64) := by kernel_rfl
theorem grow_callW (n : Nat) (hn : n ≤ 100000000) : CallW Try.prog 85 [.lst .nil 1 [], .v (.int .i64 n)] [] fun r h' =>
  (n = 0 ∧ r = .lst .nil 1 [] ∧ h' = []) ∨ (0 < n ∧ ∃ cap, n ≤ cap ∧ cap ≤ maxLen ∧ r = .arr 0 0 0 cap ∧ h' = [.cells 5 (byL (List.replicate cap 0))]) := by
 refine callW_of_W Try.func85 rfl (by decide +kernel) (by simp [Try.f85]) (rs := [.tmp 4]) rfl ?_
 rw [show Try.f85.ntmps = 27 from rfl]
 have h0 : ¬ (n : Int) < 0 := by omega
 have hw0 : IntKind.i64.wrap (n : Int) = n := w64 (by omega) (by omega)
 have hw00 : IntKind.i64.wrap 0 = 0 := rfl
 refine W_evK [0, 1] (by simp; rfl) ?_
 refine W_seq ?_
 refine W_evK [0, 1, 6] (by simp [h0]; rfl) ?_
 refine W_cond rfl (fun h => by cases h) (fun h => ?_)
 refine W_skip ?_
 refine W_seq ?_
 refine W_evK [0, 1] (by simp [hw0, hw00]; rfl) ?_
 by_cases hp : 0 < n
 ·refine W_evK [0, 1, 16] (by simp [hp]; rfl) ?_
  refine W_cond rfl (fun h => ?_) (fun h => by cases h)
  refine W_rE [0] ?_
  refine runA_pre 5 (by simp; rfl) rfl ?_
  refine runA_zeros (n := n) (by simp) rfl rfl rfl rfl (by simp; exact ⟨rfl, rfl⟩) (by simp; rfl) s27 u3 a5 z5 (by simp) hp (by omega) ?_
  intro cap h1 h2
  refine ⟨_, by simp; rfl, ?_⟩
  refine runA_fin (by simp; rfl) ?_
  refine W_evK [4] (by simp; rfl) ?_
  refine W_ret ?_
  refine retW_mk (by simp; rfl) (by simp) (by simp [repC_bytes]) ?_
  refine .inr ⟨hp, cap, h1, h2, ?_, ?_⟩
  ·by_cases hc : cap = 0
   ·omega
   ·simp [hc]
  ·simp [repC_bytes]
 ·have : n = 0 := by omega
  subst this
  refine W_evK [0, 1, 16] (by simp; rfl) ?_
  refine W_cond rfl (fun h => by cases h) (fun h => ?_)
  refine W_skip ?_
  refine W_evK [4] (by simp; rfl) ?_
  refine W_ret ?_
  refine retW_mk (by simp; rfl) (by simp) (by simp) ?_
  exact .inl ⟨rfl, rfl, rfl⟩
def total (L : List (List UInt8)) : Nat := L.flatten.length
@[simp] theorem total_nil : total [] = 0 := rfl
theorem total_take {L : List (List UInt8)} {i : Nat} {b : List UInt8} (h : L[i]? = some b) : total (L.take (i + 1)) = total (L.take i) + b.length := by
 unfold total; rw [List.take_add_one, h]; simp
theorem flat_take {L : List (List UInt8)} {i : Nat} {b : List UInt8} (h : L[i]? = some b) : (L.take (i + 1)).flatten = (L.take i).flatten ++ b := by
 rw [List.take_add_one, h]; simp
theorem total_le (L : List (List UInt8)) (i : Nat) : total (L.take i) ≤ total L := by
 unfold total
 have : L.flatten = (L.take i).flatten ++ (L.drop i).flatten := by rw [← List.flatten_append, List.take_append_drop]
 rw [this, List.length_append]; omega
theorem concat_sound (L : List (List UInt8)) (hL : total L ≤ 100000000) (hl : L.length ≤ 100000000) : Sound Try.prog 51 [.lst .any 1 (bbL L)] (.lst .any 1 (byL L.flatten)) := by
 refine sound_of_N Try.func51 rfl (by decide +kernel) (by simp [Try.f51]) (by simp [AV.rfL, AV.rf]) rfl (rs := [.tmp 2]) rfl ?_
 rw [show Try.f51.ntmps = 36 from rfl]
 refine W_evK [0] (by simp; rfl) ?_
 refine W_evK [0, 3] (by simp; rfl) ?_
 refine W_seq ?_
 refine W_evK [0, 3, 9, 10, 11] (by simp; rfl) ?_
 refine W_block ?_
 refine W_loop (fun k s => ∃ i : Nat, k = L.length - i ∧ i ≤ L.length ∧ s = ⟨36, [(0, .lst .any 1 (bbL L)), (3, .v (.int .i64 (total (L.take i) : Nat))), (9, .lst .any 1 (bbL L)), (10, .v (.int .i64 (L.length : Nat))), (11, .v (.int .i64 (i : Nat)))], []⟩) (k := L.length) ⟨0, rfl, by omega, by simp⟩ ?_
 rintro k s ⟨i, rfl, hi, rfl⟩
 by_cases h1 : i < L.length
 ·obtain ⟨b, hb⟩ : ∃ b, L[i]? = some b := ⟨_, List.getElem?_eq_getElem h1⟩
  have hbb : (bbL L)[i]? = some (.lst .any 1 (byL b)) := by rw [bbL_get, hb]; rfl
  have hg : L[i] = b := (List.getElem?_eq_some_iff.1 hb).2
  have h1' : (i : Int) < L.length := by omega
  have ht := total_take hb
  have hle := total_le L (i + 1)
  have hw : IntKind.i64.wrap ((total (L.take i) : Nat) + (b.length : Int)) = (total (L.take (i + 1)) : Nat) := by rw [w64 (by omega) (by omega)]; omega
  have hw2 : IntKind.i64.wrap ((i : Int) + 1) = (i + 1 : Nat) := w64 (by omega) (by omega)
  have h0 : ¬ ((total (L.take (i + 1)) : Nat) : Int) < 0 := by omega
  refine W_evK [0, 3, 9, 10, 11, 12] (by simp [h1, h1']; rfl) ?_
  refine W_seq ?_
  refine W_cond rfl (fun h => ?_) (fun h => by cases h)
  refine W_skip ?_
  refine W_seq ?_
  refine W_block ?_
  refine W_evK [0, 3, 9, 10, 11, 5] (by simp [h1, hbb, hg]; rfl) ?_
  refine W_evK [0, 3, 9, 10, 11] (by simp [hw]; rfl) ?_
  refine W_evK [0, 3, 9, 10, 11, 20] (by simp [h0]; rfl) ?_
  refine W_cond rfl (fun h => by cases h) (fun h => ?_)
  refine W_skip ?_
  refine W_evE [0, 3, 9, 10, 11] (by simp [hw2]; rfl) ?_
  exact ⟨_, by omega, i + 1, rfl, by omega, rfl⟩
 have hie : i = L.length := by omega
 subst hie
 rw [List.take_length]
 refine W_evK [0, 3, 9, 10, 11, 12] (by simp; rfl) ?_
 refine W_seq ?_
 refine W_cond rfl (fun h => by cases h) (fun h => ?_)
 refine W_exit ?_
 refine W_rK [0, 6] ?_
 refine runA_pre 1 (by simp; rfl) rfl ?_
 refine runA_obj (by simp) (by first | (simp; done) | (simp; rfl)) ((grow_callW (total L) hL).mono ?_)
 rintro r h' (⟨hz, rfl, rfl⟩ | ⟨hp, cap, hc1, hc2, rfl, rfl⟩)
 ·
  refine ⟨_, by simp; rfl, ?_⟩
  refine runA_fin (by simp; rfl) ?_
  have hflat : L.flatten = [] := List.eq_nil_of_length_eq_zero hz
  have hall : ∀ i b, L[i]? = some b → b = [] := fun i b hb => by
   have := List.flatten_eq_nil_iff.1 hflat b (List.mem_of_getElem? hb)
   exact this
  rw [hflat]
  refine W_seq ?_
  refine W_evK [6, 25, 26, 27] (by simp; rfl) ?_
  refine W_block ?_
  refine W_loop (fun k s => ∃ (i : Nat) (fl : Fl), k = L.length - i ∧ i ≤ L.length ∧ (fl = .nil ∨ fl = .tip 5 67) ∧ s = ⟨36, [(6, .lst fl 1 []), (25, .lst .any 1 (bbL L)), (26, .v (.int .i64 (L.length : Nat))), (27, .v (.int .i64 (i : Nat)))], []⟩) (k := L.length) ⟨0, .nil, rfl, by omega, .inl rfl, by simp⟩ ?_
  rintro k s ⟨i, fl, rfl, hi, hfl, rfl⟩
  by_cases h1 : i < L.length
  ·obtain ⟨b, hb⟩ : ∃ b, L[i]? = some b := ⟨_, List.getElem?_eq_getElem h1⟩
   have hbb : (bbL L)[i]? = some (.lst .any 1 (byL b)) := by rw [bbL_get, hb]; rfl
   have hg : L[i] = b := (List.getElem?_eq_some_iff.1 hb).2
   have hbe := hall i b hb
   subst hbe
   have h1' : (i : Int) < L.length := by omega
   have hw2 : IntKind.i64.wrap ((i : Int) + 1) = (i + 1 : Nat) := w64 (by omega) (by omega)
   refine W_evK [6, 25, 26, 27, 28] (by simp [h1, h1']; rfl) ?_
   refine W_seq ?_
   refine W_cond rfl (fun h => ?_) (fun h => by cases h)
   refine W_skip ?_
   refine W_seq ?_
   refine W_block ?_
   refine W_evK [6, 25, 26, 27, 8] (by simp [h1, hbb, hg]; rfl) ?_
   rcases hfl with rfl | rfl
   ·refine W_evE [6, 25, 26, 27] (by simp; rfl) ?_
    refine W_evE [6, 25, 26, 27] (by simp [hw2]; rfl) ?_
    exact ⟨_, by omega, i + 1, _, rfl, by omega, .inr rfl, rfl⟩
   ·refine W_evE [6, 25, 26, 27] (by simp; rfl) ?_
    refine W_evE [6, 25, 26, 27] (by simp [hw2]; rfl) ?_
    exact ⟨_, by omega, i + 1, _, rfl, by omega, .inr rfl, rfl⟩
  have hie : i = L.length := by omega
  subst hie
  refine W_evK [6, 25, 26, 27, 28] (by simp; rfl) ?_
  refine W_seq ?_
  refine W_cond rfl (fun h => by cases h) (fun h => ?_)
  refine W_exit ?_
  rcases hfl with rfl | rfl
  all_goals
   refine W_evK [2] (by simp; rfl) ?_
   refine W_ret ?_
   repeat (first | refine on_ret ?_ | refine in_ret ?_)
   exact ⟨_, by simp [retQ]; exact ⟨rfl, by simp⟩, .inr rfl⟩
 ·
  refine ⟨_, by simp; rfl, ?_⟩
  refine runA_fin (by simp; rfl) ?_
  refine W_seq ?_
  refine W_evK [6, 25, 26, 27] (by simp; rfl) ?_
  refine W_block ?_
  refine W_loop (fun k s => ∃ (i : Nat) (B : List UInt8), k = L.length - i ∧ i ≤ L.length ∧ B.length = cap ∧ B.take (total (L.take i)) = (L.take i).flatten ∧
   s = ⟨36, [(6, .arr 0 0 (total (L.take i)) cap), (25, .lst .any 1 (bbL L)), (26, .v (.int .i64 (L.length : Nat))), (27, .v (.int .i64 (i : Nat)))], [.cells 5 (byL B)]⟩) (k := L.length) ⟨0, List.replicate cap 0, rfl, by omega, by simp, by simp, by simp⟩ ?_
  rintro k s ⟨i, B, rfl, hi, hB, hBt, rfl⟩
  by_cases h1 : i < L.length
  ·obtain ⟨b, hb⟩ : ∃ b, L[i]? = some b := ⟨_, List.getElem?_eq_getElem h1⟩
   have hbb : (bbL L)[i]? = some (.lst .any 1 (byL b)) := by rw [bbL_get, hb]; rfl
   have hg : L[i] = b := (List.getElem?_eq_some_iff.1 hb).2
   have h1' : (i : Int) < L.length := by omega
   have hw2 : IntKind.i64.wrap ((i : Int) + 1) = (i + 1 : Nat) := w64 (by omega) (by omega)
   have ht := total_take hb
   have hf := flat_take hb
   have hle := total_le L (i + 1)
   refine W_evK [6, 25, 26, 27, 28] (by simp [h1, h1']; rfl) ?_
   refine W_seq ?_
   refine W_cond rfl (fun h => ?_) (fun h => by cases h)
   refine W_skip ?_
   refine W_seq ?_
   refine W_block ?_
   refine W_evK [6, 25, 26, 27, 8] (by simp [h1, hbb, hg]; rfl) ?_
   refine W_rE [6, 25, 26, 27] ?_
   refine runA_pre 2 (by simp; rfl) rfl ?_
   refine runA_app (id := 0) (len := total (L.take i)) (cap := cap) (oy := .any) (ys := byL b) (cs := byL B) (by simp) rfl rfl rfl rfl (by simp) (by simp) s27 a5 z5 (by simp) (by simp) (by simp [hB]) (catK_byL _) (by simp; omega) ?_
   rintro s1 x1 (⟨_, rfl, rfl⟩ | ⟨hbad, _⟩)
   ·refine ⟨_, by simp; rfl, ?_⟩
    refine runA_fin (by simp; rfl) ?_
    refine W_evE [6, 25, 26, 27] (by simp [hw2]; rfl) ?_
    refine ⟨_, by omega, i + 1, B.take (total (L.take i)) ++ b ++ B.drop (total (L.take i) + b.length), rfl, by omega, ?_, ?_, ?_⟩
    ·simp; omega
    ·rw [ht, hf, ← hBt]
     rw [List.take_append_of_le_length (by simp; omega)]
     rw [List.take_of_length_le (by simp; omega)]
    ·rw [← setSeg_bytes, ht]; simp
   ·exfalso
    simp at hbad
    omega
  have hie : i = L.length := by omega
  subst hie
  rw [List.take_length] at hBt ⊢
  refine W_evK [6, 25, 26, 27, 28] (by simp; rfl) ?_
  refine W_seq ?_
  refine W_cond rfl (fun h => by cases h) (fun h => ?_)
  refine W_exit ?_
  refine W_evK [2] (by simp; rfl) ?_
  refine W_ret ?_
  repeat (first | refine on_ret ?_ | refine in_ret ?_)
  have hc := chunk_bytes (total L) B (by omega)
  rw [hBt] at hc
  exact ⟨_, by simp [retQ, frzArr, hB, hc, hc1]; exact ⟨rfl, by simp⟩, .inr (by simp [AV.weak])⟩
end Go.AM
namespace Go.AM
open Go.RowKit Go.Proofs
set_option linter.unusedSimpArgs false
set_option linter.unusedVariables false
set_option maxHeartbeats 4000000
theorem seg_cons (cs ys : List AV) (off : Nat) (y : AV) (h : off + 1 + ys.length ≤ cs.length) : setSeg (setSeg cs (off + 1) ys) off [y] = setSeg cs off (y :: ys) := by
 have h1 : (setSeg cs (off + 1) ys).length = cs.length := setSeg_length _ _ _ h
 apply List.ext_getElem?
 intro j
 rw [setSeg_get _ _ _ (by rw [h1]; simp; omega), setSeg_get _ _ _ h, setSeg_get _ _ _ (by simp; omega)]
 simp only [List.length_cons, List.length_nil]
 by_cases c1 : j = off
 ·subst c1
  rw [if_pos (by omega), if_pos (by omega)]
  simp
 ·rw [if_neg (by omega)]
  by_cases c2 : off + 1 ≤ j ∧ j < off + 1 + ys.length
  ·rw [if_pos c2, if_pos (by omega)]
   obtain ⟨k, hk⟩ : ∃ k, j - off = k + 1 := ⟨j - off - 1, by omega⟩
   rw [hk, List.getElem?_cons_succ]
   congr 1
   omega
  ·rw [if_neg c2, if_neg (by omega)]
theorem seg_nil (cs : List AV) (off : Nat) (h : off ≤ cs.length) : setSeg cs off [] = cs := by
 apply List.ext_getElem?
 intro j
 rw [setSeg_get _ _ _ (by simpa using h), if_neg (by simp)]
theorem rnumber_callW (h : List AObj) (id len cap at' n v : Nat) (cs : List AV) (hid : h[id]? = some (.cells 5 cs)) (hlen : at' + n ≤ len) (hcs : len ≤ cs.length) (hl2 : len ≤ 1000000000) (hv : v ≤ 9223372036854775807) :
  CallW Try.prog 78 [.arr id 0 len cap, .v (.int .i64 (at' : Nat)), .v (.int .i64 (n : Nat)), .v (.int .i64 (v : Nat))] h fun r h' => r = .tup [] ∧ h' = h.set id (.cells 5 (setSeg cs at' (byL (numM n v)))) := by
 refine callW_of_F Try.func78 rfl (by decide +kernel) (by simp [Try.f78]) (rs := []) rfl ?_
 rw [show Try.f78.ntmps = 25 from rfl]
 have hidl : id < h.length := (List.getElem?_eq_some_iff.1 hid).1
 have wn : IntKind.i64.wrap ((n : Int) - 1) = (n : Int) - 1 := w64 (by omega) (by omega)
 refine W_evK [0, 1, 3, 8] (by simp [wn]; rfl) ?_
 refine W_block ?_
 refine W_loop (fun j s => ∃ (w : Nat) (tl : List UInt8), w ≤ 9223372036854775807 ∧ j + tl.length = n ∧ numM n v = numM j w ++ tl ∧
  s = ⟨25, [(0, .arr id 0 len cap), (1, .v (.int .i64 (at' : Nat))), (3, .v (.int .i64 (w : Nat))), (8, .v (.int .i64 ((j : Int) - 1)))], h.set id (.cells 5 (setSeg cs (at' + j) (byL tl)))⟩) (k := n) ⟨v, [], hv, by simp, by simp, ?_⟩ ?_
 ·have : h.set id (.cells 5 cs) = h := by
   apply List.ext_getElem?
   intro k
   rw [List.getElem?_set]
   split
   ·rename_i e; subst e; first | rw [hid] | (rw [if_pos hidl, hid])
   ·rfl
  rw [show byL [] = [] from rfl, seg_nil _ _ (by omega), this]
 rintro j s ⟨w, tl, hw, hj, hnum, rfl⟩
 refine W_seq ?_
 cases j with
 | zero =>
  refine W_evK [0, 1, 3, 8, 12] (by simp; rfl) ?_
  refine W_cond rfl (fun h => by simp at h) (fun h => ?_)
  refine W_exit ?_
  have htl : tl = numM n v := by rw [hnum]; rfl
  subst htl
  exact ⟨.inl rfl, .tup [], rfl, rfl, by simp⟩
 | succ j =>
  have hjn : j < n := by omega
  have e1 : ((j + 1 : Nat) : Int) - 1 = (j : Int) := by omega
  have wj : IntKind.i64.wrap ((j : Int) - 1) = (j : Int) - 1 := w64 (by omega) (by omega)
  have wa : IntKind.i64.wrap ((at' : Int) + (j : Int)) = ((at' + j : Nat) : Int) := by rw [w64 (by omega) (by omega)]; omega
  have ha1 : at' + j < len := by omega
  have ha2 : ((at' + j : Nat) : Int) < len := by omega
  have q1 : (w : Int).tmod 256 = ((w % 256 : Nat) : Int) := by rw [Int.tmod_eq_emod_of_nonneg (by omega)]; omega
  have q2 : (w : Int).tdiv 256 = ((w / 256 : Nat) : Int) := by rw [Int.tdiv_eq_ediv_of_nonneg (by omega)]; omega
  have q3 : IntKind.u8.wrap ((w % 256 : Nat) : Int) = ((UInt8.ofNat (w % 256)).toNat : Nat) := by
   rw [UInt8.toNat_ofNat']
   simp only [IntKind.wrap_u8]
   omega
  have q4 : IntKind.i64.wrap ((w % 256 : Nat) : Int) = ((w % 256 : Nat) : Int) := w64 (by omega) (by omega)
  have q5 : IntKind.i64.wrap ((w / 256 : Nat) : Int) = ((w / 256 : Nat) : Int) := w64 (by omega) (by omega)
  rw [e1]
  have hseg := seg_cons cs (byL tl) (at' + j) (.v (.int .u8 (UInt8.ofNat (w % 256)).toNat)) (by simp; omega)
  rw [show at' + j + 1 = at' + (j + 1) by omega] at hseg
  obtain ⟨C, hC⟩ : ∃ C, setSeg cs (at' + (j + 1)) (byL tl) = C := ⟨_, rfl⟩
  have hCl : C.length = cs.length := by rw [← hC]; exact setSeg_length _ _ _ (by simp; omega)
  rw [hC] at hseg ⊢
  obtain ⟨H, hH⟩ : ∃ H, h.set id (.cells 5 C) = H := ⟨_, rfl⟩
  have hHid : H[id]? = some (.cells 5 C) := by rw [← hH]; exact List.getElem?_set_self hidl
  have hset : H.set id (.cells 5 (setSeg C (at' + j) [.v (.int .u8 (UInt8.ofNat (w % 256)).toNat)])) = h.set id (.cells 5 (setSeg cs (at' + j) (byL (UInt8.ofNat (w % 256) :: tl)))) := by
   rw [← hH, List.set_set, hseg, byL_cons]
  rw [hH]
  obtain ⟨W, hW⟩ : ∃ W, UInt8.ofNat (w % 256) = W := ⟨_, rfl⟩
  obtain ⟨w1, hw1⟩ : ∃ w1, w % 256 = w1 := ⟨_, rfl⟩
  obtain ⟨w2, hw2⟩ : ∃ w2, w / 256 = w2 := ⟨_, rfl⟩
  obtain ⟨A, hA⟩ : ∃ A, at' + j = A := ⟨_, rfl⟩
  rw [hW] at hset q3
  rw [hw1] at q1 q3 q4
  rw [hw2] at q2 q5
  rw [hA] at hset wa ha1 ha2
  refine W_evK [0, 1, 3, 8, 12] (by simp; rfl) ?_
  refine W_cond rfl (fun h => ?_) (fun h => by simp at h)
  refine W_skip ?_
  refine W_seq ?_
  refine W_block ?_
  refine W_evK [0, 1, 3, 8] (by simp [wa, q1, q4, q3, ha1, ha2, hHid, show A + 1 ≤ C.length by omega]; rfl) ?_
  refine W_evE [0, 1, 3, 8] (by simp [q2, q5]; rfl) ?_
  refine W_evE [0, 1, 3, 8] (by simp [wj]; rfl) ?_
  refine ⟨j, by omega, w / 256, W :: tl, by omega, by simp; omega, ?_, ?_⟩
  ·rw [hnum, numM, hw1, ← hW, hw1]; simp
  ·rw [hA, hw2, ← hset]
theorem rbytes_sound (v n : Nat) (hv : v ≤ 9223372036854775807) (hn : n ≤ 100) : Sound Try.prog 56 [.v (.int .i64 n), .v (.int .i64 v)] (.lst .any 1 (byL (numM n v))) := by
 refine sound_of_N Try.func56 rfl (by decide +kernel) (by simp [Try.f56]) rfl rfl (rs := [.tmp 4]) rfl ?_
 rw [show Try.f56.ntmps = 13 from rfl]
 have hcw := rnumber_callW [.cells 5 (byL (List.replicate n 0))] 0 n n 0 n v (byL (List.replicate n 0)) rfl (by omega) (by simp) (by omega) hv
 have hseg : setSeg (byL (List.replicate n 0)) 0 (byL (numM n v)) = byL (numM n v) := by
  unfold setSeg
  simp
 rw [hseg] at hcw
 refine W_evK [0, 1] (by simp; rfl) ?_
 refine W_evK [0, 1, 5] (by simp [repC_byL31, show (n : Int) ≤ 281474976710656 by omega, show (n : Int) ≤ 9223372036854775807 by omega]; rfl) ?_
 refine W_rK [5] ?_
 refine runA_pre 3 (by simp; rfl) rfl ?_
 refine runA_obj (f := 78) (args := [.arr 0 0 n n, .v (.int .i64 ((0 : Nat) : Int)), .v (.int .i64 (n : Nat)), .v (.int .i64 (v : Nat))]) (by simp) (by first | (simp; done) | (simp; rfl)) (hcw.mono ?_)
 rintro r h' ⟨rfl, rfl⟩
 refine ⟨_, by simp; rfl, ?_⟩
 refine runA_fin (by simp; rfl) ?_
 have hle : (numM n v).length = n := numM_length n v
 refine W_evK [4] (by simp; rfl) ?_
 refine W_ret ?_
 repeat (first | refine on_ret ?_ | refine in_ret ?_)
 exact ⟨_, by simp [retQ, frzArr]; exact ⟨rfl, rfl⟩, .inr (by simp [List.take_of_length_le (Nat.le_of_eq hle)])⟩
end Go.AM
namespace Go.AM
open Go.RowKit Go.Proofs
set_option linter.unusedSimpArgs false
set_option linter.unusedVariables false
set_option maxHeartbeats 2000000
@[simp] theorem ba_toList (l : List UInt8) : (⟨l.toArray⟩ : ByteArray).toList = l := by simp [Lib.toList_data]
@[simp] theorem bytesA_byL (l : List UInt8) : bytesA (byL l) = some l := by
 induction l with
 | nil => rfl
 | cons b l ih => rw [byL_cons]; simp [bytesA, ih]
theorem ne_nat (n m : Nat) : ((n : Int) != (m : Int)) = !decide (n = m) := by
 rw [Bool.eq_iff_iff]; simp; omega
theorem take_succ_eq {α : Type} {a b : List α} {i : Nat} {x : α} (ha : a[i]? = some x) (hb : b[i]? = some x) (h : a.take i = b.take i) : a.take (i + 1) = b.take (i + 1) := by
 rw [List.take_add_one, List.take_add_one, ha, hb, h]
theorem equal_sound (a b : List UInt8) : Sound Try.prog 55 [.lst .any 1 (byL a), .lst .any 1 (byL b)] (.v (.bool (decide (a = b)))) := by
 refine sound_of_W Try.func55 rfl (by decide +kernel) (by simp [Try.f55]) rfl rfl (rs := [.tmp 4]) rfl ?_
 rw [show Try.f55.ntmps = 10 from rfl]
 refine W_evK [0, 1] (by simp; rfl) ?_
 refine W_evK [4] (by simp [strA]; rfl) ?_
 refine W_ret ?_
 repeat (first | refine on_ret ?_ | refine in_ret ?_)
 simp [retQ]
 rw [Bool.eq_iff_iff]; simp
theorem sameLists_sound (a b : List (List UInt8)) (hl : a.length ≤ 100000000) : Sound Try.prog 38 [.lst .any 1 (bbL a), .lst .any 1 (bbL b)] (.v (.bool (decide (a = b)))) := by
 refine sound_of_W Try.func38 rfl (by decide +kernel) (by simp [Try.f38]) rfl rfl (rs := [.tmp 4]) rfl ?_
 rw [show Try.f38.ntmps = 28 from rfl]
 refine W_evK [0, 1] (by simp; rfl) ?_
 refine W_seq ?_
 by_cases c : a.length = b.length
 rotate_left
 ·have hne : ¬ a = b := fun e => c (by rw [e])
  refine W_evK [0, 1, 10] (by simp [ne_nat, c]; rfl) ?_
  refine W_cond rfl (fun h => ?_) (fun h => by simp at h)
  refine W_evK [4] (by simp; rfl) ?_
  refine W_ret ?_
  repeat (first | refine on_ret ?_ | refine in_ret ?_)
  simp [retQ, hne]
 refine W_evK [0, 1, 10] (by simp [c]; rfl) ?_
 refine W_cond rfl (fun h => by simp at h) (fun h => ?_)
 refine W_skip ?_
 refine W_seq ?_
 refine W_evK [0, 1, 5] (by simp; rfl) ?_
 refine W_block ?_
 refine W_loop (fun k s => ∃ i : Nat, k = a.length - i ∧ i ≤ a.length ∧ a.take i = b.take i ∧ s = ⟨28, [(0, .lst .any 1 (bbL a)), (1, .lst .any 1 (bbL b)), (5, .v (.int .i64 i))], []⟩) (k := a.length) ⟨0, by simp, by omega, by simp, by simp⟩ ?_
 rintro k s ⟨i, rfl, hi, hab, rfl⟩
 refine W_seq ?_
 refine W_evK [0, 1, 5, 14] (by simp; rfl) ?_
 refine W_cond rfl (fun h => ?_) (fun h => ?_)
 ·refine W_skip ?_
  refine W_seq ?_
  refine W_block ?_
  have hi2 : i < a.length := by simp at h; omega
  have hj2 : i < b.length := by omega
  have hi2' : (i : Int) < a.length := by omega
  have hj2' : (i : Int) < b.length := by omega
  obtain ⟨r, hr⟩ : ∃ r, a[i]? = some r := ⟨_, List.getElem?_eq_getElem hi2⟩
  obtain ⟨q, hq⟩ : ∃ q, b[i]? = some q := ⟨_, List.getElem?_eq_getElem hj2⟩
  have hr2 : a[i]'hi2 = r := by rw [List.getElem?_eq_getElem hi2] at hr; exact Option.some.inj hr
  have hq2 : b[i]'hj2 = q := by rw [List.getElem?_eq_getElem hj2] at hq; exact Option.some.inj hq
  refine W_rdK [0, 1, 5, 27] mx (by decide +kernel) ?_
  refine runD_pre 5 (by simp [hi2, hi2', hr2]; rfl) rfl ?_
  by_cases e : r = q
  ·subst e
   have wi := w64 (n := (i : Int) + 1) (by omega) (by omega)
   refine runD_fin (by simp [hj2, hj2', hq2, strA]; rfl) ?_
   refine W_cond rfl (fun h => by simp at h) (fun h => ?_)
   refine W_skip ?_
   refine W_evE [0, 1, 5] (by simp [wi]; rfl) ?_
   exact ⟨_, by omega, i + 1, rfl, by omega, take_succ_eq hr hq hab, by simp⟩
  ·have hne : ¬ a = b := fun he => e (by rw [he, hq] at hr; exact (Option.some.inj hr).symm)
   have e2 : (r == q) = false := by simpa using e
   refine runD_fin (by simp [hj2, hj2', hq2, e2, strA]; rfl) ?_
   refine W_cond rfl (fun h => ?_) (fun h => by simp at h)
   refine W_evK [4] (by simp; rfl) ?_
   refine W_ret ?_
   repeat (first | refine on_ret ?_ | refine in_ret ?_)
   simp [retQ, hne]
 refine W_exit ?_
 have hie : i = a.length := by simp at h; omega
 have hEq : a = b := by
  rw [hie, List.take_length] at hab
  rw [hab, c, List.take_length]
 refine W_evK [4] (by simp; rfl) ?_
 refine W_ret ?_
 repeat (first | refine on_ret ?_ | refine in_ret ?_)
 simp [retQ, hEq]
theorem eqFunc_sound (a b : List (List UInt8)) (hl : a.length ≤ 100000000) : Sound Try.prog 93 [.lst .any 1 (bbL a), .lst .any 1 (bbL b), .fn (.func 55) [] []] (.v (.bool (decide (a = b)))) := by
 refine sound_of_W Try.func93 rfl (by decide +kernel) (by simp [Try.f93]) rfl rfl (rs := [.tmp 6]) rfl ?_
 rw [show Try.f93.ntmps = 32 from rfl]
 refine W_evK [0, 1, 2] (by simp; rfl) ?_
 refine W_seq ?_
 by_cases c : a.length = b.length
 rotate_left
 ·have hne : ¬ a = b := fun e => c (by rw [e])
  refine W_evK [0, 1, 2, 14] (by simp [ne_nat, c]; rfl) ?_
  refine W_cond rfl (fun h => ?_) (fun h => by simp at h)
  refine W_evK [6] (by simp; rfl) ?_
  refine W_ret ?_
  repeat (first | refine on_ret ?_ | refine in_ret ?_)
  simp [retQ, hne]
 refine W_evK [0, 1, 2, 14] (by simp [c]; rfl) ?_
 refine W_cond rfl (fun h => by simp at h) (fun h => ?_)
 refine W_skip ?_
 refine W_seq ?_
 refine W_evK [1, 2, 15, 16, 17] (by simp; rfl) ?_
 refine W_block ?_
 refine W_loop (fun k s => ∃ i : Nat, k = a.length - i ∧ i ≤ a.length ∧ a.take i = b.take i ∧ s = ⟨32, [(1, .lst .any 1 (bbL b)), (2, .fn (.func 55) [] []), (15, .lst .any 1 (bbL a)), (16, .v (.int .i64 (a.length : Nat))), (17, .v (.int .i64 (i : Nat)))], []⟩) (k := a.length) ⟨0, by simp, by omega, by simp, by simp⟩ ?_
 rintro k s ⟨i, rfl, hi, hab, rfl⟩
 by_cases hi2 : i < a.length
 ·have hj2 : i < b.length := by omega
  have hi2' : (i : Int) < a.length := by omega
  have hj2' : (i : Int) < b.length := by omega
  obtain ⟨r, hr⟩ : ∃ r, a[i]? = some r := ⟨_, List.getElem?_eq_getElem hi2⟩
  obtain ⟨q, hq⟩ : ∃ q, b[i]? = some q := ⟨_, List.getElem?_eq_getElem hj2⟩
  have hr2 : a[i]'hi2 = r := by rw [List.getElem?_eq_getElem hi2] at hr; exact Option.some.inj hr
  have hq2 : b[i]'hj2 = q := by rw [List.getElem?_eq_getElem hj2] at hq; exact Option.some.inj hq
  have wi := w64 (n := (i : Int) + 1) (by omega) (by omega)
  refine W_evK [1, 2, 15, 16, 17, 18] (by simp [hi2]; rfl) ?_
  refine W_seq ?_
  refine W_cond rfl (fun h => ?_) (fun h => by simp at h)
  refine W_skip ?_
  refine W_seq ?_
  refine W_block ?_
  refine W_evK [1, 2, 15, 16, 17, 7, 8] (by simp [hi2, hi2', hr2]; rfl) ?_
  refine W_evK [1, 2, 15, 16, 17, 8, 9] (by simp [hj2, hj2', hq2]; rfl) ?_
  refine W_rK [1, 2, 15, 16, 17, 30] ?_
  refine runA_pre 3 (by simp; rfl) rfl ?_
  refine runA_call (by simp) (by first | (simp; done) | (simp; rfl)) (equal_sound r q) (by simp; rfl) ?_
  by_cases e : r = q
  ·subst e
   refine runA_fin (by simp; rfl) ?_
   refine W_cond rfl (fun h => by simp at h) (fun h => ?_)
   refine W_skip ?_
   refine W_evE [1, 2, 15, 16, 17] (by simp [wi]; rfl) ?_
   exact ⟨_, by omega, i + 1, rfl, by omega, take_succ_eq hr hq hab, by simp⟩
  ·have hne : ¬ a = b := fun he => e (by rw [he, hq] at hr; exact (Option.some.inj hr).symm)
   refine runA_fin (by simp [e]; rfl) ?_
   refine W_cond rfl (fun h => ?_) (fun h => by simp at h)
   refine W_evK [6] (by simp; rfl) ?_
   refine W_ret ?_
   repeat (first | refine on_ret ?_ | refine in_ret ?_)
   simp [retQ, hne]
 refine W_evK [1, 2, 15, 16, 17, 18] (by simp [hi2]; rfl) ?_
 refine W_seq ?_
 refine W_cond rfl (fun h => by simp at h) (fun h => ?_)
 refine W_exit ?_
 have hie : i = a.length := by omega
 have hEq : a = b := by
  rw [hie, List.take_length] at hab
  rw [hab, c, List.take_length]
 refine W_evK [6] (by simp; rfl) ?_
 refine W_ret ?_
 repeat (first | refine on_ret ?_ | refine in_ret ?_)
 simp [retQ, hEq]
theorem same66_sound (a b : List (List UInt8)) (hl : a.length ≤ 100000000) : Sound Try.prog 66 [.lst .any 1 (bbL a), .lst .any 1 (bbL b)] (.v (.bool (decide (a = b)))) := by
 refine sound_of_W Try.func66 rfl (by decide +kernel) (by simp [Try.f66]) rfl rfl (rs := [.tmp 4]) rfl ?_
 rw [show Try.f66.ntmps = 8 from rfl]
 refine W_evK [0, 1] (by simp; rfl) ?_
 refine W_rK [4] ?_
 refine runA_pre 2 (by simp; rfl) rfl ?_
 refine runA_call (by simp) (by first | (simp; done) | (simp; rfl)) (eqFunc_sound a b hl) (by simp; rfl) ?_
 refine runA_fin (by simp; rfl) ?_
 refine W_ret ?_
 repeat (first | refine on_ret ?_ | refine in_ret ?_)
 simp [retQ]
theorem retU_pl {rs : List ResultVar} {r r0 : AV} {e : Exit} {s : St} (h : retQ Try.prog rs r0 e s) (hp : r0.plain = r) : retU Try.prog rs r e s := ⟨r0, h, hp ▸ AV.Le.plain r0⟩
end Go.AM
