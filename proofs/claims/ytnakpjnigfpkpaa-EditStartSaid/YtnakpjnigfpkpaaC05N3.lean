/- Number: packed. -/
import Derived.Test.YtnakpjnigfpkpaaC05N2
namespace Go.AM
open Go.RowKit Go.Proofs
set_option linter.unusedSimpArgs false
set_option linter.unusedVariables false
set_option maxHeartbeats 1000000

def packP : List Int → List UInt8
  | a :: b :: l => UInt8.ofNat (16 * a + b).toNat :: packP l
  | _ => []
def sgnM (neg : Bool) : Int := if neg then 13 else 12
def packM (ds : List UInt8) (neg : Bool) : List UInt8 := packP (digM ds ++ [sgnM neg])
theorem packP_next : ∀ (j : Nat) (l : List Int) (a b : Int), l[2 * j]? = some a → l[2 * j + 1]? = some b → packP (l.take (2 * (j + 1))) = packP (l.take (2 * j)) ++ [UInt8.ofNat (16 * a + b).toNat]
  | 0, l, a, b, ha, hb => by
    match l, ha, hb with
    | x :: y :: l, ha, hb =>
      simp at ha hb
      subst ha hb
      simp [packP]
    | [x], _, hb => simp at hb
    | [], ha, _ => simp at ha
  | j + 1, l, a, b, ha, hb => by
    match l, ha, hb with
    | x :: y :: l, ha, hb =>
      have := packP_next j l a b (by simpa [show 2 * (j + 1) = 2 * j + 1 + 1 by omega] using ha) (by simpa [show 2 * (j + 1) + 1 = 2 * j + 1 + 1 + 1 by omega] using hb)
      rw [show 2 * (j + 1 + 1) = 2 * (j + 1) + 1 + 1 by omega, show 2 * (j + 1) = 2 * j + 1 + 1 by omega] at *
      simp only [List.take_succ_cons, packP, List.cons_append]
      rw [← this]
    | [x], ha, _ => simp [show 2 * (j + 1) = 2 * j + 1 + 1 by omega] at ha
    | [], ha, _ => simp at ha
theorem packP_len : ∀ (j : Nat) (l : List Int), 2 * j ≤ l.length → (packP (l.take (2 * j))).length = j
  | 0, l, _ => by simp [packP]
  | j + 1, l, h => by
    match l, h with
    | x :: y :: l, h =>
      rw [show 2 * (j + 1) = 2 * j + 1 + 1 by omega] at *
      simp only [List.take_succ_cons, packP, List.length_cons] at h ⊢
      rw [packP_len j l (by omega)]
    | [x], h => simp at h; omega
    | [], h => simp at h
theorem packM_len (ds : List UInt8) (neg : Bool) : (packM ds neg).length ≤ 51 := by
  have h1 := digM_len ds
  have h2 := digM_odd ds
  have h := packP_len (((digM ds).length + 1) / 2) (digM ds ++ [sgnM neg]) (by simp; omega)
  rw [List.take_of_length_le (by simp; omega)] at h
  unfold packM
  omega

theorem packed_sound (ds : List UInt8) (neg : Bool) (tl : List UInt8) : Sound Try.prog 18 [numA ds neg tl] (.lst (.tip 5 1) 1 (byL (packM ds neg))) := by
  refine sound_of_N Try.func18 rfl (by decide +kernel) (by simp [Try.f18]) rfl rfl (rs := [.tmp 2]) rfl ?_
  rw [show Try.f18.ntmps = 37 from rfl]
  have hlen := digM_len ds
  have hodd := digM_odd ds
  have hrng := digM_range ds
  refine W_evK [1] (by simp; rfl) ?_
  refine W_rK [1, 3] ?_
  refine runA_pre 1 (by simp; rfl) rfl ?_
  refine runA_call (by simp) (by simp; rfl) (digits_sound ds neg tl) (by simp; rfl) ?_
  refine runA_fin (by simp; rfl) ?_
  refine W_evK [1, 3, 4] (by simp; rfl) ?_
  have hcap : ((digM ds).length + 1) * 8 ≤ 140737488355328 := by omega
  refine W_cut (fun s => s = ⟨37, [(3, .lst (.tip 3 17) 1 (inL (digM ds))), (4, .v (.int .i64 (sgnM neg))), (10, .v (.bool neg))], [.cells 37 [.lst .any 1 (byL ds), .v (.bool neg), .lst .any 1 (byL tl)]]⟩) ?_ ?_
  · refine W_evK [3, 4, 10] (by simp; rfl) ?_
    cases neg with
    | true =>
      refine W_cond rfl (fun h => ?_) (fun h => by cases h)
      refine W_evE [3, 4, 10] (by simp; rfl) ?_
      simp [sgnM]
    | false =>
      refine W_cond rfl (fun h => by cases h) (fun h => ?_)
      refine W_skip ?_
      simp [sgnM]
  rintro _ rfl
  have hl1 : ∀ l, l = digM ds ++ [sgnM neg] → l.length ≤ 101 ∧ l.length % 2 = 0 ∧ inL (digM ds) ++ [.v (.int .i64 (sgnM neg))] = inL l ∧ (∀ d ∈ l, 0 ≤ d ∧ d ≤ 13) ∧ (∀ j d, l[2 * j]? = some d → d ≤ 13 ∧ (2 * j + 1 < l.length → d ≤ 9)) := by
    rintro l rfl
    refine ⟨by simp; omega, by simp; omega, by simp [inL], ?_, ?_⟩
    · intro d hd
      rcases List.mem_append.1 hd with h | h
      · have := hrng d h; omega
      · simp at h; subst h; unfold sgnM; split <;> omega
    · intro j d hd
      have hr : ∀ d ∈ digM ds ++ [sgnM neg], d ≤ 13 := by
        intro d hd
        rcases List.mem_append.1 hd with h | h
        · have := hrng d h; omega
        · simp at h; subst h; unfold sgnM; split <;> omega
      refine ⟨hr d (List.mem_of_getElem? hd), fun h => ?_⟩
      rw [List.getElem?_append_left (by simp at h; omega)] at hd
      exact (hrng d (List.mem_of_getElem? hd)).2
  refine W_evK [3] (by simp [hcap]; rfl) ?_
  unfold packM
  obtain ⟨l, hl⟩ : ∃ l, l = digM ds ++ [sgnM neg] := ⟨_, rfl⟩
  obtain ⟨hl2, hev, hin, hr13, hr9⟩ := hl1 l hl
  rw [hin, ← hl]
  refine W_evK [3, 5] (by simp; rfl) ?_
  refine W_seq ?_
  refine W_evK [3, 5, 6] (by simp; rfl) ?_
  refine W_block ?_
  refine W_loop (fun k s => ∃ (j : Nat) (fl : Fl), k = l.length - j ∧ 2 * j ≤ l.length ∧ (j = 0 ∧ fl = .nil ∨ fl = .tip 5 71) ∧ s = ⟨37, [(3, .lst (.tip 3 17) 1 (inL l)), (5, .lst fl 1 (byL (packP (l.take (2 * j))))), (6, .v (.int .i64 (2 * j : Nat)))], [.cells 37 [.lst .any 1 (byL ds), .v (.bool neg), .lst .any 1 (byL tl)]]⟩) (k := l.length) ⟨0, _, rfl, by omega, .inl ⟨rfl, rfl⟩, by simp [packP]⟩ ?_
  rintro k s ⟨j, fl, rfl, hj, hfl, rfl⟩
  refine W_seq ?_
  by_cases h1 : 2 * j < l.length
  · obtain ⟨a, ha⟩ : ∃ a, l[2 * j]? = some a := ⟨_, List.getElem?_eq_getElem h1⟩
    have h2 : 2 * j + 1 < l.length := by omega
    obtain ⟨b, hb⟩ : ∃ b, l[2 * j + 1]? = some b := ⟨_, List.getElem?_eq_getElem h2⟩
    have hnext := packP_next j l a b ha hb
    have hpl := packP_len j l hj
    have ha9 := (hr9 j a ha).2 h2
    have ha0 := (hr13 a (List.mem_of_getElem? ha)).1
    have hb13 := hr13 b (List.mem_of_getElem? hb)
    obtain ⟨i, hi⟩ : ∃ i, i = 2 * j := ⟨_, rfl⟩
    rw [← hi] at h1 h2 ha hb hpl ⊢
    have hga : l[i] = a := (List.getElem?_eq_some_iff.1 ha).2
    have hgb : l[i + 1] = b := (List.getElem?_eq_some_iff.1 hb).2
    have h1' : (i : Int) < l.length := by omega
    have hw : IntKind.i64.wrap ((i : Int) + 1) = (i + 1 : Nat) := w64 (by omega) (by omega)
    refine W_evK [3, 5, 6, 18] (by simp [h1, h1']; rfl) ?_
    refine W_cond rfl (fun h => ?_) (fun h => by cases h)
    refine W_skip ?_
    refine W_seq ?_
    refine W_block ?_
    have hm1 : IntKind.i64.wrap (16 * a) = 16 * a := w64 (by omega) (by omega)
    have hm2 : IntKind.i64.wrap (16 * a + b) = 16 * a + b := w64 (by omega) (by omega)
    have hm3 : IntKind.u8.wrap (16 * a + b) = 16 * a + b := wu8 (by omega) (by omega)
    have hby : AV.v (.int .u8 (16 * a + b)) = .v (.int .u8 ((UInt8.ofNat (16 * a + b).toNat).toNat : Nat)) := by
      congr 2
      rw [UInt8.toNat_ofNat']; omega
    have hcap2 : (packP (l.take i)).length + 1 ≤ 140737488355328 := by omega
    have hw2 : IntKind.i64.wrap ((i : Int) + 2) = (i + 2 : Nat) := w64 (by omega) (by omega)
    rcases hfl with ⟨rfl, rfl⟩ | rfl
    · have hi0 : i = 0 := by omega
      have he : packP (l.take i) = [] := List.eq_nil_of_length_eq_zero (by omega)
      rw [he, byL_nil]
      refine W_rdE [3, 5, 6] mx (by decide +kernel) ?_
      refine runD_pre 6 (by simp [h1, hga, hm1]; rfl) rfl ?_
      refine runD_pre 6 (by simp [hw, h2, hgb, hm2]; rfl) rfl ?_
      refine runD_fin (by simp [hm2, hm3]; rfl) ?_
      refine W_evE [3, 5, 6] (by simp; rfl) ?_
      refine ⟨_, by omega, 1, _, rfl, by omega, .inr rfl, ?_⟩
      rw [hnext, ← hi, he, List.nil_append]
      rw [hw2, hi0, byL_cons, byL_nil, ← hby]
    · refine W_rdE [3, 5, 6] mx (by decide +kernel) ?_
      refine runD_pre 6 (by simp [h1, hga, hm1]; rfl) rfl ?_
      refine runD_pre 6 (by simp [hw, h2, hgb, hm2]; rfl) rfl ?_
      refine runD_fin (by simp [hm2, hm3, hcap2]; rfl) ?_
      refine W_evE [3, 5, 6] (by simp; rfl) ?_
      refine ⟨_, by omega, j + 1, _, rfl, by omega, .inr rfl, ?_⟩
      rw [hnext, byL_append, ← hi, byL_cons, byL_nil, ← hby, hw2, hi]
      rfl
  · have hall : l.take (2 * j) = l := List.take_of_length_le (by omega)
    have h1' : ¬ ((2 * j : Nat) : Int) < l.length := by omega
    have h1'' : ¬ 2 * (j : Int) < l.length := by omega
    rw [hall]
    refine W_evK [3, 5, 6, 18] (by simp [h1, h1', h1'']; rfl) ?_
    refine W_cond rfl (fun h => by cases h) (fun h => ?_)
    refine W_exit ?_
    refine W_evK [2] (by simp; rfl) ?_
    refine W_ret ?_
    have hj0 : fl = .tip 5 71 := by
      rcases hfl with ⟨rfl, _⟩ | h
      · have : l.length = (digM ds).length + 1 := by rw [hl]; simp
        omega
      · exact h
    subst hj0
    exact ⟨_, by simp [retQ]; exact ⟨rfl, by simp⟩, .inl fun T => by simp [AV.norm]⟩
end Go.AM
