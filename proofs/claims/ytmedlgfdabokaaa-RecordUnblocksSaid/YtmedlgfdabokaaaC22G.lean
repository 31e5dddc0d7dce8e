/- described; lists of records in a made slice. -/
import Derived.Test.YtmedlgfdabokaaaC22E
namespace Go.AM
open Go.RowKit Go.Proofs
set_option linter.unusedSimpArgs false
set_option linter.unusedVariables false
set_option maxHeartbeats 1000000

theorem bits_or (a b k : Nat) (ha : a % 2 ^ k = 0) (hb : b < 2 ^ k) (h : a + b < 2 ^ 63) : bitsA .or .i64 (a : Int) (b : Int) = some (.v (.int .i64 ((a + b : Nat) : Int))) := by
  have e : (BitVec.ofInt 64 (a : Int) ||| BitVec.ofInt 64 (b : Int)).toNat = a + b := by
    rw [BitVec.ofInt_natCast, BitVec.ofInt_natCast, BitVec.toNat_or, BitVec.toNat_ofNat, BitVec.toNat_ofNat, Nat.mod_eq_of_lt (by omega), Nat.mod_eq_of_lt (by omega)]
    obtain ⟨q, hq⟩ := Nat.dvd_of_mod_eq_zero ha
    rw [hq]
    exact (Nat.two_pow_add_eq_or_of_lt hb q).symm
  have := w64 (n := ((a + b : Nat) : Int)) (by omega) (by omega)
  rw [← e] at this ⊢
  unfold bitsA
  exact congrArg (fun z => some (AV.v (.int .i64 z))) this
def descd (b : List UInt8) : Int := match b with
  | b0 :: b1 :: b2 :: b3 :: _ => if b2 = 0 then if b3 = 0 then ((b0.toNat * 256 + b1.toNat : Nat) : Int) else -1 else -1
  | _ => -1
theorem u8z {b : UInt8} (h : b ≠ 0) : ((b.toNat : Int) != 0) = true := by
  have : b.toNat ≠ 0 := fun e => h (UInt8.toNat_inj.1 (by simpa using e))
  simp; omega
theorem descd_sound (b : List UInt8) : Sound Try.prog 39 [.lst .any 1 (byL b)] (.v (.int .i64 (descd b))) := by
  refine sound_of_W Try.func39 rfl (by decide +kernel) (by simp [Try.f39]) rfl rfl (rs := [.tmp 2]) rfl ?_
  rw [show Try.f39.ntmps = 28 from rfl]
  refine W_evK [0] (by simp; rfl) ?_
  refine W_seq ?_
  by_cases h4 : b.length < 4
  · have hd : descd b = -1 := by
      match b, h4 with
      | [], _ => rfl
      | [_], _ => rfl
      | [_, _], _ => rfl
      | [_, _, _], _ => rfl
      | _ :: _ :: _ :: _ :: _, h => simp at h; omega
    have h4i : (b.length : Int) < 4 := by omega
    refine W_rK [0, 17] ?_
    refine runA_pre 6 (by simp [h4i]; rfl) rfl ?_
    refine runA_pre 6 (by simp; rfl) rfl ?_
    refine runA_fin (by simp; rfl) ?_
    refine W_cond rfl (fun h => ?_) (fun h => by simp at h)
    refine W_evK [2] (by simp; rfl) ?_
    refine W_ret ?_
    repeat (first | refine on_ret ?_ | refine in_ret ?_)
    simp [retQ, hd]
  match b, h4 with
  | [], h => exact absurd (by simp) h
  | [_], h => exact absurd (by simp) h
  | [_, _], h => exact absurd (by simp) h
  | [_, _, _], h => exact absurd (by simp) h
  | b0 :: b1 :: b2 :: b3 :: l, h4 =>
    have h4i : ¬ ((l.length : Int) + 1 + 1 + 1 + 1 < 4) := by omega
    by_cases h2 : b2 = 0
    rotate_left
    · have hz := u8z h2
      refine W_rK [0, 17] ?_
      refine runA_pre 6 (by simp [byL_cons, h4i]; rfl) rfl ?_
      refine runA_pre 6 (by simp [hz]; rfl) rfl ?_
      refine runA_fin (by simp; rfl) ?_
      refine W_cond rfl (fun h => ?_) (fun h => by simp at h)
      refine W_evK [2] (by simp; rfl) ?_
      refine W_ret ?_
      repeat (first | refine on_ret ?_ | refine in_ret ?_)
      simp [retQ, descd, h2]
    subst h2
    by_cases h3 : b3 = 0
    rotate_left
    · have hz := u8z h3
      refine W_rK [0, 17] ?_
      refine runA_pre 6 (by simp [byL_cons, h4i]; rfl) rfl ?_
      refine runA_pre 6 (by simp; rfl) rfl ?_
      refine runA_fin (by simp [hz]; rfl) ?_
      refine W_cond rfl (fun h => ?_) (fun h => by simp at h)
      refine W_evK [2] (by simp; rfl) ?_
      refine W_ret ?_
      repeat (first | refine on_ret ?_ | refine in_ret ?_)
      simp [retQ, descd, h3]
    subst h3
    have h0 := b0.toNat_lt
    have h1 := b1.toNat_lt
    have c0 : IntKind.i64.wrap ((b0.toNat : Int)) = b0.toNat := w64 (by omega) (by omega)
    have c1 : IntKind.i64.wrap ((b1.toNat : Int)) = b1.toNat := w64 (by omega) (by omega)
    have s0 : IntKind.i64.wrap ((b0.toNat : Int) * 2 ^ min 8 IntKind.i64.bits) = ((b0.toNat * 256 : Nat) : Int) := by
      rw [show min 8 IntKind.i64.bits = 8 from rfl, w64 (by omega) (by omega)]; omega
    have r1 := bits_or (b0.toNat * 256) b1.toNat 8 (by omega) (by omega) (by omega)
    refine W_rK [0, 17] ?_
    refine runA_pre 6 (by simp [byL_cons, h4i]; rfl) rfl ?_
    refine runA_pre 6 (by simp; rfl) rfl ?_
    refine runA_fin (by simp; rfl) ?_
    refine W_cond rfl (fun h => by simp at h) (fun h => ?_)
    refine W_skip ?_
    refine W_rdK [2] mx (by decide +kernel) ?_
    refine runD_pre 5 (by simp [byL_cons, c0, s0, -Int.natCast_mul, -Int.natCast_add]; rfl) rfl ?_
    refine runD_fin (by simp [byL_cons, c1, r1, -Int.natCast_mul, -Int.natCast_add]; rfl) ?_
    refine W_ret ?_
    repeat (first | refine on_ret ?_ | refine in_ret ?_)
    simp [retQ, descd]
end Go.AM
