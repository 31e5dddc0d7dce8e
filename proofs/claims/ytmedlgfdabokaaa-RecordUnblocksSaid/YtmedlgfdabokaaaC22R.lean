/- The specification's parts: descriptor, bytes, piece, length. -/
import Derived.Test.YtmedlgfdabokaaaC22PC
namespace Go.AM
open Go.RowKit Go.Proofs
set_option linter.unusedSimpArgs false
set_option linter.unusedVariables false
set_option maxHeartbeats 1000000

theorem rdesc_sound (n : Nat) (hn : n ≤ 9223372036854775807) : Sound Try.prog 38 [.v (.int .i64 n)] (.lst (.tip 5 1) 1 (byL (desc n))) := by
  refine sound_of_U Try.func38 rfl (by decide +kernel) (by simp [Try.f38]) rfl rfl (rs := [.tmp 2]) rfl ?_
  rw [show Try.f38.ntmps = 10 from rfl]
  have q : ((n : Int).tdiv 256) = ((n / 256 : Nat) : Int) := by rw [Int.tdiv_eq_ediv_of_nonneg (by omega)]; rfl
  have t : ((n : Int).tmod 256) = ((n % 256 : Nat) : Int) := by rw [Int.tmod_eq_emod_of_nonneg (by omega)]; omega
  have w1 : IntKind.i64.wrap ((n / 256 : Nat) : Int) = ((n / 256 : Nat) : Int) := w64 (by omega) (by omega)
  have h3 := u8w (n / 256)
  have h4 := u8w (n % 256)
  have hm : UInt8.ofNat (n % 256) = UInt8.ofNat n := by
    apply UInt8.toNat_inj.1
    simp [UInt8.toNat_ofNat']
  rw [hm] at h4
  refine W_evK [0] (by simp; rfl) ?_
  refine W_rK [2] ?_
  refine runA_pre 3 (by simp [q, w1, h3, -Int.natCast_ediv]; rfl) rfl ?_
  refine runA_pre 3 (by simp [t, h4, -Int.natCast_emod]; rfl) rfl ?_
  refine runA_fin (by simp; rfl) ?_
  refine W_ret ?_
  repeat (first | refine on_ret ?_ | refine in_ret ?_)
  exact ⟨_, by simp [retQ]; exact ⟨rfl, by simp⟩, .norm fun T => by simp [desc, byL]⟩

theorem enc_eq (d : Dcb) (l : List (List UInt8)) : enc d l = if d.fmt == 2 then desc ((body d l).length + 4) ++ body d l else body d l := rfl

theorem bytes_sound (d : Dcb) (l : List (List UInt8)) (hl : l.length ≤ 1000000) (hr : ∀ r ∈ l, r ≠ [] ∧ r.length ≤ 1000000) : Sound Try.prog 30 [dcbA d, .lst .any 1 (bbL l)] (.lst (.tip 5 1) 1 (byL (enc d l))) := by
  refine sound_of_U Try.func30 rfl (by decide +kernel) (by simp [Try.f30]) rfl rfl (rs := [.tmp 4]) rfl ?_
  rw [show Try.f30.ntmps = 41 from rfl]
  refine W_evK [1, 2] (by simp; rfl) ?_
  refine W_evK [1, 2, 5] (by simp; rfl) ?_
  refine W_seq ?_
  refine W_evK [1, 2, 5, 6] (by simp; rfl) ?_
  refine W_block ?_
  refine W_loop (fun k s => ∃ (i : Nat) (x : AV) (T : Nat), k = l.length - i ∧ i ≤ l.length ∧ (body d (l.take i)).length ≤ i * 1000010 ∧ T % 2 = 1 ∧ ((i = 0 ∧ x = .lst .nil 1 []) ∨ x = .lst (.tip 5 T) 1 (byL (body d (l.take i)))) ∧
    s = ⟨41, [(1, .lst .any 1 (bbL l)), (2, .loc 0 0), (5, x), (6, .v (.int .i64 i))], [.cells 23 (dcbC d)]⟩) (k := l.length) ⟨0, _, 1, rfl, by omega, by simp [body], rfl, .inl ⟨rfl, rfl⟩, by simp [dcbC]⟩ ?_
  rintro k s ⟨i, x, T, rfl, hi, hbl, hT, hx, rfl⟩
  refine W_seq ?_
  by_cases c : i < l.length
  · have ci : (i : Int) < l.length := by omega
    obtain ⟨t, hti⟩ : ∃ t, l[i]? = some t := ⟨_, List.getElem?_eq_getElem c⟩
    have ht2 : l[i]'c = t := by rw [List.getElem?_eq_getElem c] at hti; exact Option.some.inj hti
    obtain ⟨hne, htl⟩ := hr t (List.mem_of_getElem? hti)
    have wi := w64 (n := (i : Int) + 1) (by omega) (by omega)
    have htk : l.take (i + 1) = l.take i ++ [t] := by rw [List.take_add_one, hti]; rfl
    have hbs : body d (l.take (i + 1)) = body d (l.take i) ++ item d t := by rw [htk, body_snoc]
    have hil := item_len d t
    have hlm : lenM d t ≤ t.length + 4 := by unfold lenM; split <;> omega
    have hmul : (i + 1) * 1000010 = i * 1000010 + 1000010 := by omega
    have hbl2 : (body d (l.take (i + 1))).length ≤ (i + 1) * 1000010 := by rw [hbs, List.length_append]; omega
    obtain ⟨B, hB⟩ : ∃ B, body d (l.take i) = B := ⟨_, rfl⟩
    rw [hB] at hx hbs hbl
    refine W_evK [1, 2, 5, 6, 10] (by simp [c]; rfl) ?_
    refine W_cond rfl (fun h => ?_) (fun h => by simp at h)
    refine W_skip ?_
    refine W_seq ?_
    refine W_block ?_
    refine W_seq ?_
    have w4 : IntKind.i64.wrap ((t.length : Int) + 4) = ((t.length + 4 : Nat) : Int) := by rw [w64 (by omega) (by omega)]; omega
    have b0 : t.length ≤ 140737488355328 := by omega
    rcases Bool.eq_false_or_eq_true (d.fmt == 2) with h2 | h2
    · have hit : item d t = desc (t.length + 4) ++ t := by unfold item; rw [if_pos h2]
      rw [hit] at hbs
      refine W_evK [1, 2, 5, 6, 15] (by simp [dcbC, h2]; rfl) ?_
      refine W_cond rfl (fun h => ?_) (fun h => by simp at h)
      refine W_rE [1, 2, 5, 6] ?_
      refine runA_pre 7 (by simp [c, ci, ht2, w4, -Int.natCast_add]; rfl) rfl ?_
      refine runA_call (by simp) (by first | (simp; done) | (simp; rfl)) (rdesc_sound (t.length + 4) (by omega)) (by simp; rfl) ?_
      rcases hx with ⟨h0, rfl⟩ | rfl
      · subst h0
        have hB0 : B = [] := by rw [← hB]; rfl
        subst hB0
        have b1 : 4 + t.length ≤ 140737488355328 := by omega
        refine runA_fin (by simp; rfl) ?_
        refine W_evE [1, 2, 5, 6] (by simp only [keepS_mk]; simp [c, ci, ht2, b0, b1]; rfl) ?_
        refine W_evE [1, 2, 5, 6] (by simp; rfl) ?_
        exact ⟨_, by omega, 1, _, 49, rfl, by omega, hbl2, rfl, .inr rfl, by rw [hbs]; simp [byL_append, dcbC, show IntKind.i64.wrap 1 = 1 from rfl]⟩
      · have b1 : B.length + 4 ≤ 140737488355328 := by omega
        have b2 : B.length + 4 + t.length ≤ 140737488355328 := by omega
        refine runA_fin (by simp [b1]; rfl) ?_
        refine W_evE [1, 2, 5, 6] (by simp only [keepS_mk]; simp [c, ci, ht2, b0, b2]; rfl) ?_
        refine W_evE [1, 2, 5, 6] (by simp [wi]; rfl) ?_
        exact ⟨_, by omega, i + 1, _, T, rfl, by omega, hbl2, hT, .inr rfl, by rw [hbs]; simp [byL_append, dcbC, hT]⟩
    · have hit : item d t = t := by unfold item; rw [h2]; rfl
      rw [hit] at hbs
      refine W_evK [1, 2, 5, 6, 15] (by simp [dcbC, h2]; rfl) ?_
      refine W_cond rfl (fun h => by simp at h) (fun h => ?_)
      refine W_skip ?_
      rcases hx with ⟨h0, rfl⟩ | rfl
      · subst h0
        have hB0 : B = [] := by rw [← hB]; rfl
        subst hB0
        refine W_evE [1, 2, 5, 6] (by simp [c, ci, ht2, b0]; rfl) ?_
        refine W_evE [1, 2, 5, 6] (by simp; rfl) ?_
        exact ⟨_, by omega, 1, _, 61, rfl, by omega, hbl2, rfl, .inr rfl, by rw [hbs]; simp [dcbC, show IntKind.i64.wrap 1 = 1 from rfl]⟩
      · have b2 : B.length + t.length ≤ 140737488355328 := by omega
        refine W_evE [1, 2, 5, 6] (by simp [c, ci, ht2, b0, b2]; rfl) ?_
        refine W_evE [1, 2, 5, 6] (by simp [wi]; rfl) ?_
        exact ⟨_, by omega, i + 1, _, T, rfl, by omega, hbl2, hT, .inr rfl, by rw [hbs]; simp [byL_append, dcbC, hT]⟩
  have hie : i = l.length := by omega
  subst hie
  rw [List.take_length] at hx hbl
  refine W_evK [1, 2, 5, 6, 10] (by simp; rfl) ?_
  refine W_cond rfl (fun h => by simp at h) (fun h => ?_)
  refine W_exit ?_
  refine W_seq ?_
  obtain ⟨B, hB⟩ : ∃ B, body d l = B := ⟨_, rfl⟩
  have hE := enc_eq d l
  rw [hB] at hx hbl hE
  rw [hE]
  have w4 : IntKind.i64.wrap ((B.length : Int) + 4) = ((B.length + 4 : Nat) : Int) := by rw [w64 (by omega) (by omega)]; omega
  rcases Bool.eq_false_or_eq_true (d.fmt == 2) with h2 | h2
  · rw [if_pos h2]
    refine W_evK [5, 33] (by simp [dcbC, h2]; rfl) ?_
    refine W_cond rfl (fun h => ?_) (fun h => by simp at h)
    refine W_rK [4] ?_
    have b1 : 4 + B.length ≤ 140737488355328 := by omega
    rcases hx with ⟨h0, rfl⟩ | rfl
    · have hB0 : B = [] := by rw [← hB, List.eq_nil_of_length_eq_zero h0]; rfl
      subst hB0
      refine runA_pre 3 (by simp [show IntKind.i64.wrap 4 = 4 from rfl]; rfl) rfl ?_
      refine runA_call (by simp) (by first | (simp; done) | (simp; rfl)) (rdesc_sound 4 (by omega)) (by simp; rfl) ?_
      refine runA_fin (by simp; rfl) ?_
      refine W_ret ?_
      repeat (first | refine on_ret ?_ | refine in_ret ?_)
      exact ⟨_, by simp [retQ]; exact ⟨rfl, by simp⟩, .norm fun T => by simp⟩
    · refine runA_pre 3 (by simp [w4, -Int.natCast_add]; rfl) rfl ?_
      refine runA_call (by simp) (by first | (simp; done) | (simp; rfl)) (rdesc_sound (B.length + 4) (by omega)) (by simp; rfl) ?_
      refine runA_fin (by simp [b1]; rfl) ?_
      refine W_ret ?_
      repeat (first | refine on_ret ?_ | refine in_ret ?_)
      exact ⟨_, by simp [retQ]; exact ⟨rfl, by simp⟩, .norm fun T => by simp [byL_append]⟩
  · rw [if_neg (by rw [h2]; simp)]
    refine W_evK [5, 33] (by simp [dcbC, h2]; rfl) ?_
    refine W_cond rfl (fun h => by simp at h) (fun h => ?_)
    refine W_skip ?_
    refine W_evK [4] (by simp; rfl) ?_
    refine W_ret ?_
    repeat (first | refine on_ret ?_ | refine in_ret ?_)
    rcases hx with ⟨h0, rfl⟩ | rfl
    · have hB0 : B = [] := by rw [← hB, List.eq_nil_of_length_eq_zero h0]; rfl
      subst hB0
      exact ⟨.lst .nil 1 [], by simp [retQ], .nil (by decide +kernel)⟩
    · exact ⟨_, by simp [retQ]; exact ⟨rfl, by simp⟩, .norm fun T => by simp⟩

def pieceM (b : List UInt8) (at' : Nat) (n : Int) : List UInt8 × Bool := if n < 0 then ([], false) else if (b.length : Int) < at' + n then ([], false) else ((b.drop at').take n.toNat, true)
def resP (p : List UInt8 × Bool) : AV := .tup [.lst (.tip 5 1) 1 (byL p.1), .v (.bool p.2)]
theorem piece_sound (b : List UInt8) (at' : Nat) (n : Int) (hb : b.length ≤ 1000000000) (ha : at' ≤ 1000000000) (hn : n ≤ 1000000000) : Sound Try.prog 41 [.lst .any 1 (byL b), .v (.int .i64 at'), .v (.int .i64 n)] (resP (pieceM b at' n)) := by
  refine sound_of_U Try.func41 rfl (by decide +kernel) (by simp [Try.f41]) rfl rfl (rs := [.tmp 6, .tmp 7]) rfl ?_
  rw [show Try.f41.ntmps = 26 from rfl]
  refine W_evK [0, 1, 2] (by simp; rfl) ?_
  refine W_seq ?_
  have hnil : retU Try.prog [.tmp 6, .tmp 7] (resP ([], false)) .ret ⟨26, [(6, .lst .nil 1 []), (7, .v (.bool false))], []⟩ :=
    ⟨.tup [.lst .nil 1 [], .v (.bool false)], by simp [retQ], .tup2 (.nil (by decide +kernel)) (.refl _)⟩
  by_cases c1 : n < 0
  · have e : pieceM b at' n = ([], false) := by unfold pieceM; rw [if_pos c1]
    rw [e]
    refine W_evK [0, 1, 2, 17] (by simp [c1]; rfl) ?_
    refine W_cond rfl (fun h => ?_) (fun h => by simp at h)
    refine W_evK [6, 7] (by simp; rfl) ?_
    refine W_ret ?_
    repeat (first | refine on_ret ?_ | refine in_ret ?_)
    exact hnil
  obtain ⟨k, rfl⟩ := Int.eq_ofNat_of_zero_le (Int.not_lt.1 c1)
  have w1 : IntKind.i64.wrap ((at' : Int) + (k : Nat)) = ((at' + k : Nat) : Int) := by rw [w64 (by omega) (by omega)]; omega
  by_cases c2 : b.length < at' + k
  · have e : pieceM b at' k = ([], false) := by unfold pieceM; rw [if_neg c1, if_pos (by omega)]
    rw [e]
    refine W_evK [0, 1, 2, 17] (by simp [c1, w1, c2, -Int.natCast_add]; rfl) ?_
    refine W_cond rfl (fun h => ?_) (fun h => by simp at h)
    refine W_evK [6, 7] (by simp; rfl) ?_
    refine W_ret ?_
    repeat (first | refine on_ret ?_ | refine in_ret ?_)
    exact hnil
  have e : pieceM b at' k = ((b.drop at').take k, true) := by unfold pieceM; rw [if_neg c1, if_neg (by omega)]; rfl
  rw [e]
  refine W_evK [0, 1, 2, 17] (by simp [c1, w1, c2, -Int.natCast_add]; rfl) ?_
  refine W_cond rfl (fun h => by simp at h) (fun h => ?_)
  refine W_skip ?_
  have f1 : at' ≤ at' + k := by omega
  have f2 : at' + k ≤ b.length := by omega
  have b1 : k ≤ 140737488355328 := by omega
  refine W_evK [6, 7] (by simp [w1, f1, f2, b1, -Int.natCast_add, ← byL_drop, ← byL_take]; rfl) ?_
  refine W_ret ?_
  repeat (first | refine on_ret ?_ | refine in_ret ?_)
  exact ⟨_, by simp [retQ]; exact ⟨rfl, by simp⟩, .norm fun T => by simp [resP, List.drop_take]⟩
end Go.AM
