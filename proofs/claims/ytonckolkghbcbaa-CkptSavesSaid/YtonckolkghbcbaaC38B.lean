/- number, head, value, plain. -/
import Derived.Test.YtonckolkghbcbaaC38A
namespace Go.AM
open Go.RowKit Go.Proofs
set_option linter.unusedSimpArgs false
set_option linter.unusedVariables false
set_option maxHeartbeats 1000000

structure Rec where
  R : Int
  key : List UInt8
  data : List UInt8
  bad : Bool
  deriving DecidableEq
@[simp] def recA (r : Rec) : AV := .agg [.v (.int .i64 r.R), .lst .any 1 (byL r.key), .lst .any 1 (byL r.data), .v (.bool r.bad)]
def trL (t : List Rec) : List AV := t.map recA

@[simp] theorem trL_length (L : List Rec) : (trL L).length = L.length := by simp [trL]
@[simp] theorem trL_nil : trL [] = [] := rfl
theorem trL_cons (b : Rec) (L : List Rec) : trL (b :: L) = recA b :: trL L := rfl
theorem trL_append (L M : List Rec) : trL (L ++ M) = trL L ++ trL M := by simp [trL]
theorem trL_take (L : List Rec) (n : Nat) : trL (L.take n) = (trL L).take n := by simp [trL]
theorem trL_drop (L : List Rec) (n : Nat) : trL (L.drop n) = (trL L).drop n := by simp [trL]
theorem trL_get (L : List Rec) (i : Nat) : (trL L)[i]? = (L[i]?).map recA := by simp [trL]
@[simp] theorem trL_getElem (L : List Rec) (i : Nat) (h : i < (trL L).length) : (trL L)[i] = recA (L[i]'(by simpa using h)) := by simp [trL]
@[simp] theorem rfL_trL (L : List Rec) : AV.rfL (trL L) = true := by induction L <;> simp_all [trL, AV.rfL, AV.rf]
@[simp] theorem tlL_trL (L : List Rec) : AV.tlL (trL L) = true := by induction L <;> simp_all [trL, AV.tlL, AV.tl]
@[simp] theorem toksL_trL (L : List Rec) : AV.toksL (trL L) = [] := by induction L <;> simp_all [trL, AV.toksL, AV.toks]
@[simp] theorem underL_trL (m : Nat) (L : List Rec) : AV.underL m (trL L) = true := by induction L <;> simp_all [trL, AV.underL, AV.under]
@[simp] theorem killSL_trL (T : List Nat) (L : List Rec) : AV.killSL T (trL L) = trL L := killSL_tl _ (tlL_trL L)
@[simp] theorem killL_trL (T : Nat) (L : List Rec) : AV.killL T (trL L) = trL L := killL_tl _ (tlL_trL L)
@[simp] theorem weakL_trL (L : List Rec) : AV.weakL (trL L) = trL L := by induction L <;> simp_all [trL, AV.weakL, AV.weak]
@[simp] theorem dpL_trL (L : List Rec) : AV.dpL (trL L) = trL L := by induction L <;> simp_all [trL, AV.dpL, AV.dp]
@[simp] theorem normL_trL (T : Nat) (L : List Rec) : AV.normL T (trL L) = trL L := by induction L <;> simp_all [trL, AV.normL, AV.norm]

def arL (a : List (List Rec)) : List AV := a.map fun t => .lst .any 4 (trL t)
@[simp] theorem arL_length (L : List (List Rec)) : (arL L).length = L.length := by simp [arL]
@[simp] theorem arL_nil : arL [] = [] := rfl
theorem arL_append (L M : List (List Rec)) : arL (L ++ M) = arL L ++ arL M := by simp [arL]
theorem arL_take (L : List (List Rec)) (n : Nat) : arL (L.take n) = (arL L).take n := by simp [arL]
theorem arL_drop (L : List (List Rec)) (n : Nat) : arL (L.drop n) = (arL L).drop n := by simp [arL]
@[simp] theorem arL_getElem (L : List (List Rec)) (i : Nat) (h : i < (arL L).length) : (arL L)[i] = .lst .any 4 (trL (L[i]'(by simpa using h))) := by simp [arL]
@[simp] theorem rfL_arL (L : List (List Rec)) : AV.rfL (arL L) = true := by induction L <;> simp_all [arL, AV.rfL, AV.rf]
@[simp] theorem tlL_arL (L : List (List Rec)) : AV.tlL (arL L) = true := by induction L <;> simp_all [arL, AV.tlL, AV.tl]
@[simp] theorem toksL_arL (L : List (List Rec)) : AV.toksL (arL L) = [] := by induction L <;> simp_all [arL, AV.toksL, AV.toks]
@[simp] theorem underL_arL (m : Nat) (L : List (List Rec)) : AV.underL m (arL L) = true := by induction L <;> simp_all [arL, AV.underL, AV.under]
@[simp] theorem killSL_arL (T : List Nat) (L : List (List Rec)) : AV.killSL T (arL L) = arL L := killSL_tl _ (tlL_arL L)
@[simp] theorem killL_arL (T : Nat) (L : List (List Rec)) : AV.killL T (arL L) = arL L := killL_tl _ (tlL_arL L)
@[simp] theorem weakL_arL (L : List (List Rec)) : AV.weakL (arL L) = arL L := by induction L <;> simp_all [arL, AV.weakL, AV.weak]
@[simp] theorem dpL_arL (L : List (List Rec)) : AV.dpL (arL L) = arL L := by induction L <;> simp_all [arL, AV.dpL, AV.dp]
@[simp] theorem normL_arL (T : Nat) (L : List (List Rec)) : AV.normL T (arL L) = arL L := by induction L <;> simp_all [arL, AV.normL, AV.norm]
@[simp] theorem koneL_arL (L : List (List Rec)) : AV.koneL (arL L) = true := by induction L <;> simp_all [arL, AV.koneL, AV.kone]
@[simp] theorem catK_arL (L : List (List Rec)) : catK 1 (arL L) = some (arL L) := by induction L <;> simp_all [arL, catK, AV.cellsK, AV.kone]

def be4 (n : Nat) : List UInt8 := [UInt8.ofNat (n / 16777216), UInt8.ofNat (n / 65536), UInt8.ofNat (n / 256), UInt8.ofNat n]
def val4 (b : List UInt8) : Nat := match b with
  | b0 :: b1 :: b2 :: b3 :: _ => b0.toNat * 16777216 + b1.toNat * 65536 + b2.toNat * 256 + b3.toNat
  | _ => 0
theorem u8w (n : Nat) : IntKind.u8.wrap (n : Int) = ((UInt8.ofNat n).toNat : Nat) := by
  rw [UInt8.toNat_ofNat']
  simp only [IntKind.wrap_u8]
  omega

theorem shr_nat (n k : Nat) (hk : k ≤ 64) : ((n : Int).fdiv (2 ^ min k IntKind.i64.bits)) = ((n / 2 ^ k : Nat) : Int) := by
  have : min k IntKind.i64.bits = k := by rw [show IntKind.i64.bits = 64 from rfl]; omega
  rw [this, Int.fdiv_eq_ediv_of_nonneg _ (by exact_mod_cast Nat.zero_le _)]
  norm_cast

theorem number_sound (n : Nat) : Sound Try.prog 27 [.v (.int .i64 n)] (.lst .any 1 (byL (be4 n))) := by
  refine sound_of_N Try.func27 rfl (by decide +kernel) (by simp [Try.f27]) rfl rfl (rs := [.tmp 2]) rfl ?_
  rw [show Try.f27.ntmps = 15 from rfl]
  have h1 := u8w (n / 16777216)
  have h2 := u8w (n / 65536)
  have h3 := u8w (n / 256)
  have h4 := u8w n
  refine W_evK [0] (by simp; rfl) ?_
  refine W_rK [2] ?_
  refine runA_pre 6 (by simp; rfl) rfl ?_
  refine runA_pre 4 (by simp; rfl) rfl ?_
  refine runA_fin (by simp; rfl) ?_
  refine W_ret ?_
  repeat (first | refine on_ret ?_ | refine in_ret ?_)
  exact ⟨_, by simp [retQ]; exact ⟨rfl, by simp⟩, .inr (by
    simp only [AV.plain]
    have e1 := shr_nat n 24 (by omega)
    have e2 := shr_nat n 16 (by omega)
    have e3 := shr_nat n 8 (by omega)
    simp only [Nat.reducePow] at e1 e2 e3
    rw [e1, e2, e3, h1, h2, h3, h4]
    rfl)⟩

theorem head_sound (a b : Nat) : Sound Try.prog 28 [.v (.int .i64 a), .v (.int .i64 b)] (.lst .any 1 (byL ([195, 210, 215, 227] ++ be4 a ++ be4 b))) := by
  refine sound_of_N Try.func28 rfl (by decide +kernel) (by simp [Try.f28]) rfl rfl (rs := [.tmp 4]) rfl ?_
  rw [show Try.f28.ntmps = 13 from rfl]
  have hc := concat_sound [[195, 210, 215, 227], be4 a, be4 b] (by simp [total, be4]) (by simp)
  rw [show bbL [[195, 210, 215, 227], be4 a, be4 b] = [.lst .any 1 [.v (.int .u8 195), .v (.int .u8 210), .v (.int .u8 215), .v (.int .u8 227)], .lst .any 1 (byL (be4 a)), .lst .any 1 (byL (be4 b))] from rfl] at hc
  refine W_evK [0, 1] (by simp; rfl) ?_
  refine W_rK [4] ?_
  refine runA_pre 1 (by simp; rfl) rfl ?_
  refine runA_b (by simp) ⟨_, by simp [evSame]; rfl, ?_⟩
  refine runA_pre 1 (by simp; rfl) rfl ?_
  refine runA_call (by simp) (by first | (simp; done) | (simp; rfl)) (number_sound a) (by simp; rfl) ?_
  refine runA_pre 1 (by simp; rfl) rfl ?_
  refine runA_call (by simp) (by first | (simp; done) | (simp; rfl)) (number_sound b) (by simp; rfl) ?_
  refine runA_pre 1 (by simp; rfl) rfl ?_
  refine runA_call (by simp) (by first | (simp; done) | (simp; rfl)) hc (by simp; rfl) ?_
  refine runA_fin (by simp; rfl) ?_
  refine W_ret ?_
  repeat (first | refine on_ret ?_ | refine in_ret ?_)
  exact ⟨_, by simp [retQ]; exact ⟨rfl, by simp⟩, .inr (by simp)⟩

theorem bits_or (a b k : Nat) (ha : a % 2 ^ k = 0) (hb : b < 2 ^ k) (h : a + b < 2 ^ 63) : bitsA .or .i64 (a : Int) (b : Int) = some (.v (.int .i64 ((a + b : Nat) : Int))) := by
  have e : (BitVec.ofInt 64 (a : Int) ||| BitVec.ofInt 64 (b : Int)).toNat = a + b := by
    rw [BitVec.ofInt_natCast, BitVec.ofInt_natCast, BitVec.toNat_or, BitVec.toNat_ofNat, BitVec.toNat_ofNat, Nat.mod_eq_of_lt (by omega), Nat.mod_eq_of_lt (by omega)]
    obtain ⟨q, hq⟩ := Nat.dvd_of_mod_eq_zero ha
    rw [hq]
    exact (Nat.two_pow_add_eq_or_of_lt hb q).symm
  have := w64 (n := ((a + b : Nat) : Int)) (by omega) (by omega)
  rw [← e] at this ⊢
  unfold bitsA
  exact congrArg (fun z => some (AV.v (.int .i64 z))) this

theorem value_sound (b0 b1 b2 b3 : UInt8) (l : List UInt8) : Sound Try.prog 32 [.lst .any 1 (byL (b0 :: b1 :: b2 :: b3 :: l))] (.v (.int .i64 (val4 (b0 :: b1 :: b2 :: b3 :: l) : Nat))) := by
  refine sound_of_W Try.func32 rfl (by decide +kernel) (by simp [Try.f32]) rfl rfl (rs := [.tmp 2]) rfl ?_
  rw [show Try.f32.ntmps = 25 from rfl]
  have h0 := b0.toNat_lt
  have h1 := b1.toNat_lt
  have h2 := b2.toNat_lt
  have h3 := b3.toNat_lt
  have c0 : IntKind.i64.wrap ((b0.toNat : Int)) = b0.toNat := w64 (by omega) (by omega)
  have c1 : IntKind.i64.wrap ((b1.toNat : Int)) = b1.toNat := w64 (by omega) (by omega)
  have c2 : IntKind.i64.wrap ((b2.toNat : Int)) = b2.toNat := w64 (by omega) (by omega)
  have c3 : IntKind.i64.wrap ((b3.toNat : Int)) = b3.toNat := w64 (by omega) (by omega)
  refine W_evK [0] (by simp; rfl) ?_
  refine W_rdK [2] mx (by decide +kernel) ?_
  have s0 : IntKind.i64.wrap ((b0.toNat : Int) * 2 ^ min 24 IntKind.i64.bits) = ((b0.toNat * 16777216 : Nat) : Int) := by
    rw [show min 24 IntKind.i64.bits = 24 from rfl, w64 (by omega) (by omega)]; omega
  have s1 : IntKind.i64.wrap ((b1.toNat : Int) * 2 ^ min 16 IntKind.i64.bits) = ((b1.toNat * 65536 : Nat) : Int) := by
    rw [show min 16 IntKind.i64.bits = 16 from rfl, w64 (by omega) (by omega)]; omega
  have s2 : IntKind.i64.wrap ((b2.toNat : Int) * 2 ^ min 8 IntKind.i64.bits) = ((b2.toNat * 256 : Nat) : Int) := by
    rw [show min 8 IntKind.i64.bits = 8 from rfl, w64 (by omega) (by omega)]; omega
  have r1 := bits_or (b0.toNat * 16777216) (b1.toNat * 65536) 24 (by omega) (by omega) (by omega)
  have r2 := bits_or (b0.toNat * 16777216 + b1.toNat * 65536) (b2.toNat * 256) 16 (by omega) (by omega) (by omega)
  have r3 := bits_or (b0.toNat * 16777216 + b1.toNat * 65536 + b2.toNat * 256) b3.toNat 8 (by omega) (by omega) (by omega)
  refine runD_pre 6 (by simp [byL_cons, c0, s0, -Int.natCast_mul, -Int.natCast_add]; rfl) rfl ?_
  refine runD_pre 5 (by simp [byL_cons, c1, s1, r1, -Int.natCast_mul, -Int.natCast_add]; rfl) rfl ?_
  refine runD_pre 6 (by simp [byL_cons, c2, s2, r2, -Int.natCast_mul, -Int.natCast_add]; rfl) rfl ?_
  refine runD_fin (by simp [byL_cons, c3, r3, -Int.natCast_mul, -Int.natCast_add]; rfl) ?_
  refine W_ret ?_
  repeat (first | refine on_ret ?_ | refine in_ret ?_)
  simp [retQ, val4]
end Go.AM
