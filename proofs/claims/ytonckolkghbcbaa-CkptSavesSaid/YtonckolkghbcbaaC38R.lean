/- The specification's value, number, SameTracks. -/
import Derived.Test.YtonckolkghbcbaaC38G
namespace Go.AM
open Go.RowKit Go.Proofs
set_option linter.unusedSimpArgs false
set_option linter.unusedVariables false
set_option maxHeartbeats 1000000

theorem same_tracks (a b : List (List Rec)) (hl : a.length ≤ 100000000) (ht : ∀ t ∈ a, t.length ≤ 100000000) : Sound Try.prog 17 [.lst .any 1 (arL a), .lst .any 1 (arL b)] (.v (.bool (decide (a = b)))) := by
  refine sound_of_W Try.func17 rfl (by decide +kernel) (by simp [Try.f17]) rfl rfl (rs := [.tmp 4]) rfl ?_
  rw [show Try.f17.ntmps = 27 from rfl]
  refine W_evK [0, 1] (by simp; rfl) ?_
  refine W_seq ?_
  by_cases c : a.length = b.length
  rotate_left
  · have hne : ¬ a = b := fun e => c (by rw [e])
    refine W_evK [0, 1, 10] (by simp [ne_nat, c]; rfl) ?_
    refine W_cond rfl (fun h => ?_) (fun h => by simp at h)
    refine W_evK [4] (by simp; rfl) ?_
    refine W_ret ?_
    repeat (first | refine on_ret ?_ | refine in_ret ?_)
    simp [retQ, hne]
  refine W_evK [0, 1, 10] (by simp [c]; rfl) ?_
  refine W_cond rfl (fun h => by simp at h) (fun h => ?_)
  refine W_skip ?_
  refine W_seq ?_
  refine W_evK [0, 1, 5] (by simp; rfl) ?_
  refine W_block ?_
  refine W_loop (fun k s => ∃ i : Nat, k = a.length - i ∧ i ≤ a.length ∧ a.take i = b.take i ∧ s = ⟨27, [(0, .lst .any 1 (arL a)), (1, .lst .any 1 (arL b)), (5, .v (.int .i64 i))], []⟩) (k := a.length) ⟨0, by simp, by omega, by simp, by simp⟩ ?_
  rintro k s ⟨i, rfl, hi, hab, rfl⟩
  refine W_seq ?_
  refine W_evK [0, 1, 5, 14] (by simp; rfl) ?_
  refine W_cond rfl (fun h => ?_) (fun h => ?_)
  · refine W_skip ?_
    refine W_seq ?_
    refine W_block ?_
    have hi2 : i < a.length := by simp at h; omega
    have hj2 : i < b.length := by omega
    have hi2' : (i : Int) < a.length := by omega
    have hj2' : (i : Int) < b.length := by omega
    obtain ⟨r, hr⟩ : ∃ r, a[i]? = some r := ⟨_, List.getElem?_eq_getElem hi2⟩
    obtain ⟨q, hq⟩ : ∃ q, b[i]? = some q := ⟨_, List.getElem?_eq_getElem hj2⟩
    have hr2 : a[i]'hi2 = r := by rw [List.getElem?_eq_getElem hi2] at hr; exact Option.some.inj hr
    have hq2 : b[i]'hj2 = q := by rw [List.getElem?_eq_getElem hj2] at hq; exact Option.some.inj hq
    have hst := same_track r q (ht r (List.mem_of_getElem? hr))
    refine W_rdK [0, 1, 5, 26] mx (by decide +kernel) ?_
    refine runD_pre 8 (by simp [hi2, hi2', hj2, hj2', hr2, hq2]; rfl) rfl ?_
    refine runD_call (by simp) (by first | (simp; done) | (simp; rfl)) hst (by simp; rfl) ?_
    by_cases e : r = q
    · have wi := w64 (n := (i : Int) + 1) (by omega) (by omega)
      refine runD_fin (by simp [e]; rfl) ?_
      refine W_cond rfl (fun h => by simp at h) (fun h => ?_)
      refine W_skip ?_
      refine W_evE [0, 1, 5] (by simp [wi]; rfl) ?_
      exact ⟨_, by omega, i + 1, rfl, by omega, take_succ_eq hr (by rw [hq, e]) hab, by simp⟩
    · have hne : ¬ a = b := fun he => e (by rw [he, hq] at hr; exact (Option.some.inj hr).symm)
      refine runD_fin (by simp [e]; rfl) ?_
      refine W_cond rfl (fun h => ?_) (fun h => by simp at h)
      refine W_evK [4] (by simp; rfl) ?_
      refine W_ret ?_
      repeat (first | refine on_ret ?_ | refine in_ret ?_)
      simp [retQ, hne]
  refine W_exit ?_
  have hie : i = a.length := by simp at h; omega
  have hEq : a = b := by
    rw [hie, List.take_length] at hab
    rw [hab, c, List.take_length]
  refine W_evK [4] (by simp; rfl) ?_
  refine W_ret ?_
  repeat (first | refine on_ret ?_ | refine in_ret ?_)
  simp [retQ, hEq]

theorem value29 (b : List UInt8) (hb : 4 ≤ b.length) : Sound Try.prog 29 [.lst .any 1 (byL b)] (.v (.int .i64 (val4 b : Nat))) := by
  match b, hb with
  | b0 :: b1 :: b2 :: b3 :: l, _ =>
  refine sound_of_W Try.func29 rfl (by decide +kernel) (by simp [Try.f29]) rfl rfl (rs := [.tmp 2]) rfl ?_
  rw [show Try.f29.ntmps = 25 from rfl]
  have h0 := b0.toNat_lt
  have h1 := b1.toNat_lt
  have h2 := b2.toNat_lt
  have h3 := b3.toNat_lt
  have c0 : IntKind.i64.wrap ((b0.toNat : Int)) = b0.toNat := w64 (by omega) (by omega)
  have c1 : IntKind.i64.wrap ((b1.toNat : Int)) = b1.toNat := w64 (by omega) (by omega)
  have c2 : IntKind.i64.wrap ((b2.toNat : Int)) = b2.toNat := w64 (by omega) (by omega)
  have c3 : IntKind.i64.wrap ((b3.toNat : Int)) = b3.toNat := w64 (by omega) (by omega)
  have m0 : IntKind.i64.wrap (16777216 * (b0.toNat : Int)) = 16777216 * (b0.toNat : Int) := w64 (by omega) (by omega)
  have m1 : IntKind.i64.wrap (65536 * (b1.toNat : Int)) = 65536 * (b1.toNat : Int) := w64 (by omega) (by omega)
  have m2 : IntKind.i64.wrap (256 * (b2.toNat : Int)) = 256 * (b2.toNat : Int) := w64 (by omega) (by omega)
  have a1 : IntKind.i64.wrap (16777216 * (b0.toNat : Int) + 65536 * (b1.toNat : Int)) = 16777216 * (b0.toNat : Int) + 65536 * (b1.toNat : Int) := w64 (by omega) (by omega)
  have a2 : IntKind.i64.wrap (16777216 * (b0.toNat : Int) + 65536 * (b1.toNat : Int) + 256 * (b2.toNat : Int)) = 16777216 * (b0.toNat : Int) + 65536 * (b1.toNat : Int) + 256 * (b2.toNat : Int) := w64 (by omega) (by omega)
  have a3 : IntKind.i64.wrap (16777216 * (b0.toNat : Int) + 65536 * (b1.toNat : Int) + 256 * (b2.toNat : Int) + (b3.toNat : Int)) = ((b0.toNat * 16777216 + b1.toNat * 65536 + b2.toNat * 256 + b3.toNat : Nat) : Int) := by rw [w64 (by omega) (by omega)]; omega
  refine W_evK [0] (by simp; rfl) ?_
  refine W_rdK [2] mx (by decide +kernel) ?_
  refine runD_pre 5 (by simp [byL_cons, c0, m0]; rfl) rfl ?_
  refine runD_pre 6 (by simp [byL_cons, c1, m1, a1]; rfl) rfl ?_
  refine runD_pre 6 (by simp [byL_cons, c2, m2, a2]; rfl) rfl ?_
  refine runD_fin (by simp only [List.drop, List.take]; simp [byL_cons, c3, a3, -Int.natCast_add, -Int.natCast_mul]; rfl) ?_
  refine W_ret ?_
  repeat (first | refine on_ret ?_ | refine in_ret ?_)
  simp [retQ, val4]

theorem u8m (n : Nat) : UInt8.ofNat (n % 256) = UInt8.ofNat n := by
  apply UInt8.toNat_inj.1
  rw [UInt8.toNat_ofNat', UInt8.toNat_ofNat']
  omega
theorem number36 (n : Nat) (hn : n ≤ 9223372036854775807) : Sound Try.prog 36 [.v (.int .i64 n)] (.lst .any 1 (byL (be4 n))) := by
  refine sound_of_N Try.func36 rfl (by decide +kernel) (by simp [Try.f36]) rfl rfl (rs := [.tmp 2]) rfl ?_
  rw [show Try.f36.ntmps = 18 from rfl]
  have q (k : Nat) : ((n : Int).tdiv (k : Nat)) = ((n / k : Nat) : Int) := by
    rw [Int.tdiv_eq_ediv_of_nonneg (by omega)]; rfl
  have t (k : Nat) : ((k : Int).tmod 256) = ((k % 256 : Nat) : Int) := by rw [Int.tmod_eq_emod_of_nonneg (by omega)]; omega
  have q1 : (n : Int).tdiv 16777216 = ((n / 16777216 : Nat) : Int) := q 16777216
  have q2 : (n : Int).tdiv 65536 = ((n / 65536 : Nat) : Int) := q 65536
  have q3 : (n : Int).tdiv 256 = ((n / 256 : Nat) : Int) := q 256
  have w1 : IntKind.i64.wrap ((n / 16777216 : Nat) : Int) = ((n / 16777216 : Nat) : Int) := w64 (by omega) (by omega)
  have w2 : IntKind.i64.wrap ((n / 65536 : Nat) : Int) = ((n / 65536 : Nat) : Int) := w64 (by omega) (by omega)
  have w3 : IntKind.i64.wrap ((n / 256 : Nat) : Int) = ((n / 256 : Nat) : Int) := w64 (by omega) (by omega)
  have h1 := u8w (n / 16777216)
  have h2 := u8w (n / 65536 % 256)
  have h3 := u8w (n / 256 % 256)
  have h4 := u8w (n % 256)
  rw [u8m] at h2 h3 h4
  refine W_evK [0] (by simp; rfl) ?_
  refine W_rK [2] ?_
  refine runA_pre 3 (by simp [q1, w1, h1, -Int.natCast_ediv]; rfl) rfl ?_
  refine runA_pre 4 (by simp [q2, w2, t, h2, -Int.natCast_ediv, -Int.natCast_emod]; rfl) rfl ?_
  refine runA_pre 4 (by simp [q3, w3, t, h3, -Int.natCast_ediv, -Int.natCast_emod]; rfl) rfl ?_
  refine runA_pre 3 (by simp [t, h4, -Int.natCast_ediv, -Int.natCast_emod]; rfl) rfl ?_
  refine runA_fin (by simp; rfl) ?_
  refine W_ret ?_
  repeat (first | refine on_ret ?_ | refine in_ret ?_)
  exact ⟨_, by simp [retQ]; exact ⟨rfl, by simp⟩, .inr (by simp [be4, byL])⟩
end Go.AM
