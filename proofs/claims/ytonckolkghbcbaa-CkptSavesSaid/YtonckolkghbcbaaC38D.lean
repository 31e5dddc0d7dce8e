/- read. -/
import Derived.Test.YtonckolkghbcbaaC38C
namespace Go.AM
open Go.RowKit Go.Proofs
set_option linter.unusedSimpArgs false
set_option linter.unusedVariables false
set_option maxHeartbeats 1000000

@[simp] theorem be4_length (n : Nat) : (be4 n).length = 4 := rfl
theorem val4_lt (b : List UInt8) : val4 b < 4294967296 := by
  unfold val4
  split
  · rename_i b0 b1 b2 b3 _
    have := b0.toNat_lt; have := b1.toNat_lt; have := b2.toNat_lt; have := b3.toNat_lt
    omega
  · omega
theorem value_sound' (b : List UInt8) (hb : 4 ≤ b.length) : Sound Try.prog 32 [.lst .any 1 (byL b)] (.v (.int .i64 (val4 b : Nat))) := by
  match b, hb with
  | b0 :: b1 :: b2 :: b3 :: l, _ => exact value_sound b0 b1 b2 b3 l

def hdM (a b : Nat) : List UInt8 := [195, 210, 215, 227] ++ be4 a ++ be4 b
@[simp] theorem hdM_length (a b : Nat) : (hdM a b).length = 12 := rfl

theorem hd_sound (a b : Nat) : Sound Try.prog 28 [.v (.int .i64 a), .v (.int .i64 b)] (.lst .any 1 (byL (hdM a b))) := head_sound a b

def tkOk (N seq size i : Nat) (t : List Rec) (st : List UInt8) : Bool :=
  (plainM t 1).2 && decide (i + 1 < N → t.length = 1) && decide ((be4 seq).length ≤ (plainM t 1).1.length ∧ (plainM t 1).1.take (be4 seq).length = be4 seq) && decide ((plainM t 1).1.length - 4 = min 1960 (size - st.length))
def readL (N seq size : Nat) : List (List Rec) → Nat → List UInt8 → Option (List UInt8)
  | [], _, st => some st
  | t :: l, i, st => if tkOk N seq size i t st = true then readL N seq size l (i + 1) (st ++ (plainM t 1).1.drop 4) else none

def hdOk (last : List Rec) : Bool := (plainM last 2).2 && decide (last.length = 2) && decide ((plainM last 2).1.length = 12)
def sqOk (N par : Nat) (h : List UInt8) : Bool :=
  decide (1 ≤ val4 (h.drop 4)) && decide (val4 (h.drop 4) ≤ 2147483647) && decide (val4 (h.drop 4) % 2 = par) && decide (val4 (h.drop 8) ≤ N * 1960) && decide (h = hdM (val4 (h.drop 4)) (val4 (h.drop 8)))
def readM (slot : List (List Rec)) (par : Nat) : List UInt8 × Nat :=
  let last := slot[slot.length - 1]?.getD []
  let h := (plainM last 2).1
  if hdOk last = true then
    if sqOk slot.length par h = true then
      match readL slot.length (val4 (h.drop 4)) (val4 (h.drop 8)) slot 0 [] with
      | none => ([], 0)
      | some st => (st, val4 (h.drop 4))
    else ([], 0)
  else ([], 0)

def resR (p : List UInt8 × Nat) : AV := .tup [.lst (.tip 5 1) 1 (byL p.1), .v (.int .i64 (p.2 : Nat))]
theorem le_nilR : AV.Le Try.prog (.tup [.lst .nil 1 [], .v (.int .i64 0)]) (resR ([], 0)) := .tup2 (.nil (by decide +kernel)) (.refl _)
theorem ne_nat (n m : Nat) : ((n : Int) != (m : Int)) = !decide (n = m) := by
  rw [Bool.eq_iff_iff]; simp; omega
theorem ne_two (n : Nat) : ((n : Int) != 2) = !decide (n = 2) := ne_nat n 2
theorem ne_twelve (n : Nat) : ((n : Int) != 12) = !decide (n = 12) := ne_nat n 12
theorem ne_one (n : Nat) : ((n : Int) != 1) = !decide (n = 1) := ne_nat n 1

theorem read_sound (slot : List (List Rec)) (par : Nat) (hpar : par < 2) (hl : 0 < slot.length) (hl2 : slot.length ≤ 100000) :
    Sound Try.prog 23 [.lst .any 1 (arL slot), .v (.int .i64 (par : Nat))] (resR (readM slot par)) := by
  refine sound_of_U Try.func23 rfl (by decide +kernel) (by simp [Try.f23]) rfl rfl (rs := [.tmp 4, .tmp 5]) rfl ?_
  rw [show Try.f23.ntmps = 123 from rfl]
  have hsub : IntKind.i64.wrap ((slot.length : Int) - 1) = ((slot.length - 1 : Nat) : Int) := by rw [w64 (by omega) (by omega)]; omega
  obtain ⟨last, hlast⟩ : ∃ t, slot[slot.length - 1]? = some t := ⟨_, List.getElem?_eq_getElem (by omega)⟩
  have hlast2 : slot[slot.length - 1]'(by omega) = last := by rw [List.getElem?_eq_getElem (by omega)] at hlast; exact Option.some.inj hlast
  have hsl : slot.length - 1 < slot.length := by omega
  refine W_evK [0, 1] (by simp; rfl) ?_
  refine W_evK [0, 1, 6] (by simp [hsub, hsl, hlast2]; rfl) ?_
  refine W_rK [0, 1, 6, 7, 8] ?_
  refine runA_pre 1 (by simp; rfl) rfl ?_
  refine runA_call (by simp) (by first | (simp; done) | (simp; rfl)) (plain_sound last 2 (by omega) (by omega)) (by simp; rfl) ?_
  refine runA_fin (by simp; rfl) ?_
  refine W_seq ?_
  obtain ⟨h, hh⟩ : ∃ h, (plainM last 2).1 = h := ⟨_, rfl⟩
  obtain ⟨ok, hok⟩ : ∃ ok, (plainM last 2).2 = ok := ⟨_, rfl⟩
  rw [hh, hok]
  have hM : readM slot par = if hdOk last = true then if sqOk slot.length par h = true then (match readL slot.length (val4 (h.drop 4)) (val4 (h.drop 8)) slot 0 [] with
      | none => ([], 0)
      | some st => (st, val4 (h.drop 4))) else ([], 0) else ([], 0) := by
    unfold readM; simp only [hlast, Option.getD_some, hh]
  have hdE : hdOk last = (ok && decide (last.length = 2) && decide (h.length = 12)) := by unfold hdOk; rw [hh, hok]
  refine W_rK [0, 1, 7, 38] ?_
  cases ok with
  | false =>
    have hR : readM slot par = ([], 0) := by rw [hM, hdE]; simp
    refine runA_pre 6 (by simp; rfl) rfl ?_
    refine runA_fin (by simp; rfl) ?_
    refine W_cond rfl (fun _ => ?_) (fun h => by simp at h)
    refine W_evK [4, 5] (by simp; rfl) ?_
    refine W_ret ?_
    repeat (first | refine on_ret ?_ | refine in_ret ?_)
    rw [hR]
    exact ⟨_, by simp [retQ], le_nilR⟩
  | true =>
  by_cases c2 : last.length = 2
  rotate_left
  · have hR : readM slot par = ([], 0) := by rw [hM, hdE]; simp [c2]
    refine runA_pre 6 (by simp [ne_two, c2]; rfl) rfl ?_
    refine runA_fin (by simp [ne_two, c2]; rfl) ?_
    refine W_cond rfl (fun _ => ?_) (fun h => by simp at h)
    refine W_evK [4, 5] (by simp; rfl) ?_
    refine W_ret ?_
    repeat (first | refine on_ret ?_ | refine in_ret ?_)
    rw [hR]
    exact ⟨_, by simp [retQ], le_nilR⟩
  by_cases c3 : h.length = 12
  rotate_left
  · have hR : readM slot par = ([], 0) := by rw [hM, hdE]; simp [c2, c3]
    refine runA_pre 6 (by simp [c2]; rfl) rfl ?_
    refine runA_fin (by simp [ne_twelve, c3]; rfl) ?_
    refine W_cond rfl (fun _ => ?_) (fun h => by simp at h)
    refine W_evK [4, 5] (by simp; rfl) ?_
    refine W_ret ?_
    repeat (first | refine on_ret ?_ | refine in_ret ?_)
    rw [hR]
    exact ⟨_, by simp [retQ], le_nilR⟩
  have hd1 : hdOk last = true := by rw [hdE]; simp [c2, c3]
  rw [hd1, if_pos rfl] at hM
  refine runA_pre 6 (by simp [c2]; rfl) rfl ?_
  refine runA_fin (by simp [c3]; rfl) ?_
  refine W_cond rfl (fun h => by simp at h) (fun _ => ?_)
  refine W_skip ?_
  have h4 : 4 ≤ h.length := by omega
  have h8 : 8 ≤ h.length := by omega
  obtain ⟨sq, hsq⟩ : ∃ q, val4 (h.drop 4) = q := ⟨_, rfl⟩
  obtain ⟨sz, hsz⟩ : ∃ q, val4 (h.drop 8) = q := ⟨_, rfl⟩
  have hsq1 := val4_lt (h.drop 4)
  have hsz1 := val4_lt (h.drop 8)
  have v4 := value_sound' (h.drop 4) (by simp; omega)
  have v8 := value_sound' (h.drop 8) (by simp; omega)
  have hsE : sqOk slot.length par h = (decide (1 ≤ sq) && decide (sq ≤ 2147483647) && decide (sq % 2 = par) && decide (sz ≤ slot.length * 1960) && decide (h = hdM sq sz)) := by unfold sqOk; rw [hsq, hsz]
  rw [hsq] at hM v4 hsq1
  rw [hsz] at hM v8 hsz1
  refine W_rdK [0, 1, 7, 9, 10] mx (by decide +kernel) ?_
  refine runD_pre 2 (by simp [c3, ← byL_drop]; rfl) rfl ?_
  refine runD_call (by simp) (by first | (simp; done) | (simp; rfl)) v4 (by simp; rfl) ?_
  refine runD_pre 2 (by simp [c3, ← byL_drop]; rfl) rfl ?_
  refine runD_call (by simp) (by first | (simp; done) | (simp; rfl)) v8 (by simp; rfl) ?_
  refine runD_fin (by simp; rfl) ?_
  refine W_seq ?_
  refine W_rK [0, 9, 10, 71] ?_
  have hmul : IntKind.i64.wrap ((slot.length : Int) * 1960) = ((slot.length * 1960 : Nat) : Int) := by rw [w64 (by omega) (by omega)]; omega
  by_cases d1 : 1 ≤ sq
  rotate_left
  · have hR : readM slot par = ([], 0) := by rw [hM, hsE]; simp [d1]
    have e1 : (sq : Int) < 1 := by omega
    refine runA_pre 6 (by simp [e1]; rfl) rfl ?_
    refine runA_pre 6 (by simp [e1]; rfl) rfl ?_
    refine runA_pre 6 (by simp [e1]; rfl) rfl ?_
    refine runA_fin (by simp [e1]; rfl) ?_
    refine W_cond rfl (fun _ => ?_) (fun h => by simp at h)
    refine W_evK [4, 5] (by simp; rfl) ?_
    refine W_ret ?_
    repeat (first | refine on_ret ?_ | refine in_ret ?_)
    rw [hR]
    exact ⟨_, by simp [retQ], le_nilR⟩
  have e1 : ¬ (sq : Int) < 1 := by omega
  by_cases d2 : sq ≤ 2147483647
  rotate_left
  · have hR : readM slot par = ([], 0) := by rw [hM, hsE]; simp [d2]
    have e2 : (2147483647 : Int) < sq := by omega
    refine runA_pre 6 (by simp [e1, e2]; rfl) rfl ?_
    refine runA_pre 6 (by simp [e1, e2]; rfl) rfl ?_
    refine runA_pre 6 (by simp [e1, e2]; rfl) rfl ?_
    refine runA_fin (by simp [e1, e2]; rfl) ?_
    refine W_cond rfl (fun _ => ?_) (fun h => by simp at h)
    refine W_evK [4, 5] (by simp; rfl) ?_
    refine W_ret ?_
    repeat (first | refine on_ret ?_ | refine in_ret ?_)
    rw [hR]
    exact ⟨_, by simp [retQ], le_nilR⟩
  have e2 : ¬ (2147483647 : Int) < sq := by omega
  have hmod : (sq : Int).tmod 2 = ((sq % 2 : Nat) : Int) := by rw [Int.tmod_eq_emod_of_nonneg (by omega)]; omega
  by_cases d3 : sq % 2 = par
  rotate_left
  · have hR : readM slot par = ([], 0) := by rw [hM, hsE]; simp [d3]
    have e3 : (((sq % 2 : Nat) : Int) != (par : Int)) = true := by rw [ne_nat]; simp [d3]
    refine runA_pre 6 (by simp [e1, e2]; rfl) rfl ?_
    refine runA_pre 5 (by simp [hmod, e3, -Int.natCast_emod]; rfl) rfl ?_
    refine runA_pre 6 (by simp; rfl) rfl ?_
    refine runA_fin (by simp; rfl) ?_
    refine W_cond rfl (fun _ => ?_) (fun h => by simp at h)
    refine W_evK [4, 5] (by simp; rfl) ?_
    refine W_ret ?_
    repeat (first | refine on_ret ?_ | refine in_ret ?_)
    rw [hR]
    exact ⟨_, by simp [retQ], le_nilR⟩
  have e3 : (((sq % 2 : Nat) : Int) != (par : Int)) = false := by rw [ne_nat]; simp [d3]
  by_cases d4 : sz ≤ slot.length * 1960
  rotate_left
  · have hR : readM slot par = ([], 0) := by rw [hM, hsE]; simp [d4]
    have e4 : ((slot.length * 1960 : Nat) : Int) < (sz : Int) := by omega
    refine runA_pre 6 (by simp [e1, e2]; rfl) rfl ?_
    refine runA_pre 5 (by simp [hmod, e3, -Int.natCast_emod]; rfl) rfl ?_
    refine runA_pre 7 (by simp [hmul, e4, -Int.natCast_mul]; rfl) rfl ?_
    refine runA_fin (by simp; rfl) ?_
    refine W_cond rfl (fun _ => ?_) (fun h => by simp at h)
    refine W_evK [4, 5] (by simp; rfl) ?_
    refine W_ret ?_
    repeat (first | refine on_ret ?_ | refine in_ret ?_)
    rw [hR]
    exact ⟨_, by simp [retQ], le_nilR⟩
  have e4 : ¬ ((slot.length * 1960 : Nat) : Int) < (sz : Int) := by omega
  refine runA_pre 6 (by simp [e1, e2]; rfl) rfl ?_
  refine runA_pre 5 (by simp [hmod, e3, -Int.natCast_emod]; rfl) rfl ?_
  refine runA_pre 7 (by simp [hmul, e4, -Int.natCast_mul]; rfl) rfl ?_
  refine runA_pre 5 (by simp; rfl) rfl ?_
  refine runA_call (by simp) (by first | (simp; done) | (simp; rfl)) (hd_sound sq sz) (by simp; rfl) ?_
  refine runA_call (by simp) (by first | (simp; done) | (simp; rfl)) (equal_sound h (hdM sq sz)) (by simp; rfl) ?_
  by_cases d5 : h = hdM sq sz
  rotate_left
  · have hR : readM slot par = ([], 0) := by rw [hM, hsE]; simp [d5]
    refine runA_fin (by simp [d5]; rfl) ?_
    refine W_cond rfl (fun _ => ?_) (fun h => by simp at h)
    refine W_evK [4, 5] (by simp; rfl) ?_
    refine W_ret ?_
    repeat (first | refine on_ret ?_ | refine in_ret ?_)
    rw [hR]
    exact ⟨_, by simp [retQ], le_nilR⟩
  refine runA_fin (by simp [d5]; rfl) ?_
  refine W_cond rfl (fun h => by simp at h) (fun _ => ?_)
  refine W_skip ?_
  have hs1 : sqOk slot.length par h = true := by rw [hsE]; simp [d1, d2, d3, d4]; exact d5
  rw [hs1, if_pos rfl] at hM
  have g1 : (sz : Int) ≤ 281474976710656 := by omega
  have g2 : (sz : Int) ≤ 9223372036854775807 := by omega
  refine W_evK [0, 9, 10, 11] (by simp [g1, g2]; rfl) ?_
  refine W_seq ?_
  refine W_evK [0, 9, 10, 11, 74, 75, 76] (by simp; rfl) ?_
  refine W_block ?_
  refine W_loop (fun k s => ∃ (i : Nat) (st : List UInt8), k = slot.length - i ∧ i ≤ slot.length ∧ st.length ≤ sz ∧ readL slot.length sq sz slot 0 [] = readL slot.length sq sz (slot.drop i) i st ∧
    s = ⟨123, [(0, .lst .any 1 (arL slot)), (9, .v (.int .i64 sq)), (10, .v (.int .i64 sz)), (11, .lst (.tip 5 147) 1 (byL st)), (74, .lst .any 1 (arL slot)), (75, .v (.int .i64 slot.length)), (76, .v (.int .i64 i))], []⟩) (k := slot.length) ⟨0, [], by simp, by omega, by simp, by simp, by simp⟩ ?_
  rintro k s ⟨i, st, rfl, hi, hst, hrd, rfl⟩
  refine W_evK [0, 9, 10, 11, 74, 75, 76, 77] (by simp; rfl) ?_
  refine W_seq ?_
  refine W_cond rfl (fun h => ?_) (fun h => ?_)
  · refine W_skip ?_
    refine W_seq ?_
    refine W_block ?_
    have hi2 : i < slot.length := by simp at h; omega
    obtain ⟨t, ht⟩ : ∃ t, slot[i]? = some t := ⟨_, List.getElem?_eq_getElem hi2⟩
    have ht2 : slot[i]'hi2 = t := by rw [List.getElem?_eq_getElem hi2] at ht; exact Option.some.inj ht
    have hrd2 : readL slot.length sq sz (slot.drop i) i st = if tkOk slot.length sq sz i t st = true then readL slot.length sq sz (slot.drop (i + 1)) (i + 1) (st ++ (plainM t 1).1.drop 4) else none := by
      rw [List.drop_eq_getElem_cons hi2, ht2]; rfl
    rw [hrd2] at hrd
    refine W_evK [0, 9, 10, 11, 74, 75, 76, 12, 13] (by simp [hi2, ht2]; rfl) ?_
    refine W_rK [0, 9, 10, 11, 74, 75, 76, 12, 13, 14, 15] ?_
    refine runA_pre 1 (by simp; rfl) rfl ?_
    refine runA_call (by simp) (by first | (simp; done) | (simp; rfl)) (plain_sound t 1 (by omega) (by omega)) (by simp; rfl) ?_
    refine runA_fin (by simp; rfl) ?_
    refine W_seq ?_
    obtain ⟨d, hd⟩ : ∃ d, (plainM t 1).1 = d := ⟨_, rfl⟩
    obtain ⟨dk, hdk⟩ : ∃ dk, (plainM t 1).2 = dk := ⟨_, rfl⟩
    have hkE : tkOk slot.length sq sz i t st = (dk && decide (i + 1 < slot.length → t.length = 1) && decide ((be4 sq).length ≤ d.length ∧ d.take (be4 sq).length = be4 sq) && decide (d.length - 4 = min 1960 (sz - st.length))) := by
      unfold tkOk; rw [hd, hdk]
    rw [hd] at hrd
    rw [hd, hdk]
    refine W_rK [0, 9, 10, 11, 74, 75, 76, 14, 106] ?_
    cases dk with
    | false =>
      have hR : readM slot par = ([], 0) := by rw [hM, hrd, hkE]; simp
      refine runA_pre 6 (by simp; rfl) rfl ?_
      refine runA_pre 6 (by simp; rfl) rfl ?_
      refine runA_fin (by simp; rfl) ?_
      refine W_cond rfl (fun _ => ?_) (fun h => by simp at h)
      refine W_evK [4, 5] (by simp; rfl) ?_
      refine W_ret ?_
      repeat (first | refine on_ret ?_ | refine in_ret ?_)
      rw [hR]
      exact ⟨_, by simp [retQ], le_nilR⟩
    | true =>
    by_cases p1 : i + 1 < slot.length ∧ t.length ≠ 1
    · have hR : readM slot par = ([], 0) := by rw [hM, hrd, hkE]; simp [p1.1, p1.2]
      have q1 : (i : Int) < ((slot.length - 1 : Nat) : Int) := by omega
      refine runA_pre 9 (by simp [hsub, q1]; rfl) rfl ?_
      refine runA_pre 6 (by simp [ne_one, p1.2]; rfl) rfl ?_
      refine runA_fin (by simp; rfl) ?_
      refine W_cond rfl (fun _ => ?_) (fun h => by simp at h)
      refine W_evK [4, 5] (by simp; rfl) ?_
      refine W_ret ?_
      repeat (first | refine on_ret ?_ | refine in_ret ?_)
      rw [hR]
      exact ⟨_, by simp [retQ], le_nilR⟩
    have hb2 : decide (i + 1 < slot.length → t.length = 1) = true := by
      simp only [decide_eq_true_eq]
      exact fun h1 => Classical.byContradiction fun h2 => p1 ⟨h1, h2⟩
    rw [hb2] at hkE
    clear hb2
    have hpf := prefix_sound d (be4 sq)
    obtain ⟨pb, hpb⟩ : ∃ pb, decide ((be4 sq).length ≤ d.length ∧ d.take (be4 sq).length = be4 sq) = pb := ⟨_, rfl⟩
    rw [hpb] at hpf hkE
    by_cases q : i < slot.length - 1
    · have hb1 : t.length = 1 := Classical.byContradiction fun h2 => p1 ⟨by omega, h2⟩
      refine runA_pre 9 (by simp [hsub, q]; rfl) rfl ?_
      refine runA_pre 6 (by simp [ne_one, hb1]; rfl) rfl ?_
      refine runA_pre 2 (by simp; rfl) rfl ?_
      refine runA_call (by simp) (by first | (simp; done) | (simp; rfl)) (number_sound sq) (by simp; rfl) ?_
      refine runA_call (by simp) (by first | (simp; done) | (simp; rfl)) hpf (by simp; rfl) ?_
      refine runA_fin (by simp; rfl) ?_
      cases pb with
      | false =>
        have hR : readM slot par = ([], 0) := by rw [hM, hrd, hkE]; simp
        refine W_cond rfl (fun _ => ?_) (fun h => by simp at h)
        refine W_evK [4, 5] (by simp; rfl) ?_
        refine W_ret ?_
        repeat (first | refine on_ret ?_ | refine in_ret ?_)
        rw [hR]
        exact ⟨_, by simp [retQ], le_nilR⟩
      | true =>
      refine W_cond rfl (fun h => by simp at h) (fun _ => ?_)
      refine W_skip ?_
      have hd4 : 4 ≤ d.length := (of_decide_eq_true hpb).1
      have hd4i : (4 : Int) ≤ d.length := by omega
      refine W_evK [0, 9, 10, 11, 74, 75, 76, 14] (by simp [hd4i, ← byL_drop]; rfl) ?_
      refine W_seq ?_
      have hms : IntKind.i64.wrap ((sz : Int) - (st.length : Int)) = ((sz - st.length : Nat) : Int) := by rw [w64 (by omega) (by omega)]; omega
      refine W_evK [0, 9, 10, 11, 74, 75, 76, 14, 116] (by simp [hms]; rfl) ?_
      have hmn : (((d.length - 4 : Nat) : Int) != if ((sz - st.length : Nat) : Int) < 1960 then ((sz - st.length : Nat) : Int) else 1960) = !decide (d.length - 4 = min 1960 (sz - st.length)) := by
        rw [Bool.eq_iff_iff]
        simp only [bne_iff_ne, ne_eq, Bool.not_eq_true', decide_eq_false_iff_not]
        split <;> omega
      rw [hmn]
      by_cases p3 : d.length - 4 = min 1960 (sz - st.length)
      rotate_left
      · have hR : readM slot par = ([], 0) := by rw [hM, hrd, hkE]; simp [p3]
        simp only [p3, decide_false, Bool.not_false]
        refine W_cond rfl (fun _ => ?_) (fun h => by simp at h)
        refine W_evK [4, 5] (by simp; rfl) ?_
        refine W_ret ?_
        repeat (first | refine on_ret ?_ | refine in_ret ?_)
        rw [hR]
        exact ⟨_, by simp [retQ], le_nilR⟩
      simp only [p3, decide_true, Bool.not_true]
      refine W_cond rfl (fun h => by simp at h) (fun _ => ?_)
      refine W_skip ?_
      have hok : tkOk slot.length sq sz i t st = true := by rw [hkE]; simp [p3]
      rw [hok, if_pos rfl] at hrd
      have b1 : ((st.length : Int) + (d.length - 4 : Nat)) ≤ 140737488355328 := by omega
      have b2 : st.length + (d.length - 4) ≤ 140737488355328 := by omega
      refine W_evE [0, 9, 10, 11, 74, 75, 76] (by simp [b1, b2]; rfl) ?_
      refine W_evE [0, 9, 10, 11, 74, 75, 76] (by simp [w64 (n := (i : Int) + 1) (by omega) (by omega)]; rfl) ?_
      exact ⟨_, by omega, i + 1, st ++ d.drop 4, rfl, by omega, by simp; omega, hrd, by simp [byL_append]⟩
    · refine runA_pre 9 (by simp [hsub, q]; rfl) rfl ?_
      refine runA_pre 6 (by simp; rfl) rfl ?_
      refine runA_pre 2 (by simp; rfl) rfl ?_
      refine runA_call (by simp) (by first | (simp; done) | (simp; rfl)) (number_sound sq) (by simp; rfl) ?_
      refine runA_call (by simp) (by first | (simp; done) | (simp; rfl)) hpf (by simp; rfl) ?_
      refine runA_fin (by simp; rfl) ?_
      cases pb with
      | false =>
        have hR : readM slot par = ([], 0) := by rw [hM, hrd, hkE]; simp
        refine W_cond rfl (fun _ => ?_) (fun h => by simp at h)
        refine W_evK [4, 5] (by simp; rfl) ?_
        refine W_ret ?_
        repeat (first | refine on_ret ?_ | refine in_ret ?_)
        rw [hR]
        exact ⟨_, by simp [retQ], le_nilR⟩
      | true =>
      refine W_cond rfl (fun h => by simp at h) (fun _ => ?_)
      refine W_skip ?_
      have hd4 : 4 ≤ d.length := (of_decide_eq_true hpb).1
      have hd4i : (4 : Int) ≤ d.length := by omega
      refine W_evK [0, 9, 10, 11, 74, 75, 76, 14] (by simp [hd4i, ← byL_drop]; rfl) ?_
      refine W_seq ?_
      have hms : IntKind.i64.wrap ((sz : Int) - (st.length : Int)) = ((sz - st.length : Nat) : Int) := by rw [w64 (by omega) (by omega)]; omega
      refine W_evK [0, 9, 10, 11, 74, 75, 76, 14, 116] (by simp [hms]; rfl) ?_
      have hmn : (((d.length - 4 : Nat) : Int) != if ((sz - st.length : Nat) : Int) < 1960 then ((sz - st.length : Nat) : Int) else 1960) = !decide (d.length - 4 = min 1960 (sz - st.length)) := by
        rw [Bool.eq_iff_iff]
        simp only [bne_iff_ne, ne_eq, Bool.not_eq_true', decide_eq_false_iff_not]
        split <;> omega
      rw [hmn]
      by_cases p3 : d.length - 4 = min 1960 (sz - st.length)
      rotate_left
      · have hR : readM slot par = ([], 0) := by rw [hM, hrd, hkE]; simp [p3]
        simp only [p3, decide_false, Bool.not_false]
        refine W_cond rfl (fun _ => ?_) (fun h => by simp at h)
        refine W_evK [4, 5] (by simp; rfl) ?_
        refine W_ret ?_
        repeat (first | refine on_ret ?_ | refine in_ret ?_)
        rw [hR]
        exact ⟨_, by simp [retQ], le_nilR⟩
      simp only [p3, decide_true, Bool.not_true]
      refine W_cond rfl (fun h => by simp at h) (fun _ => ?_)
      refine W_skip ?_
      have hok : tkOk slot.length sq sz i t st = true := by rw [hkE]; simp [p3]
      rw [hok, if_pos rfl] at hrd
      have b1 : ((st.length : Int) + (d.length - 4 : Nat)) ≤ 140737488355328 := by omega
      have b2 : st.length + (d.length - 4) ≤ 140737488355328 := by omega
      refine W_evE [0, 9, 10, 11, 74, 75, 76] (by simp [b1, b2]; rfl) ?_
      refine W_evE [0, 9, 10, 11, 74, 75, 76] (by simp [w64 (n := (i : Int) + 1) (by omega) (by omega)]; rfl) ?_
      exact ⟨_, by omega, i + 1, st ++ d.drop 4, rfl, by omega, by simp; omega, hrd, by simp [byL_append]⟩
  refine W_exit ?_
  have hin : i = slot.length := by simp at h; omega
  rw [hin, List.drop_length] at hrd
  have hR : readM slot par = (st, sq) := by rw [hM, hrd]; rfl
  refine W_evK [4, 5] (by simp; rfl) ?_
  refine W_ret ?_
  repeat (first | refine on_ret ?_ | refine in_ret ?_)
  rw [hR]
  exact ⟨.tup [.lst (.tip 5 147) 1 (byL st), .v (.int .i64 sq)], by simp [retQ], .norm fun T => by simp [resR]⟩
end Go.AM
