/- Number: digits, tail. -/
import Derived.Test.YtnakpjnigfpkpaaC05E1
import Derived.Test.YtnakpjnigfpkpaaAmC
namespace Go.AM
open Go.RowKit Go.Proofs
set_option linter.unusedSimpArgs false
set_option linter.unusedVariables false
set_option maxHeartbeats 1000000

@[simp] def numA (ds : List UInt8) (neg : Bool) (tl : List UInt8) : AV := .agg [.lst .any 1 (byL ds), .v (.bool neg), .lst .any 1 (byL tl)]
def digP (ds : List UInt8) : List Int := (ds.take 99).map fun b => (b.toNat % 10 : Nat)
def digM (ds : List UInt8) : List Int := if (digP ds).length % 2 = 0 then digP ds ++ [0] else digP ds
def plainM (c : UInt8) : Bool := decide (c.toNat < 32 ∨ 34 < c.toNat)
def tailM (tl : List UInt8) : List UInt8 := (tl.take 50).filter plainM

theorem digP_len (ds : List UInt8) : (digP ds).length ≤ 99 ∧ (digP ds).length ≤ ds.length := by simp [digP]; omega
theorem digM_len (ds : List UInt8) : (digM ds).length ≤ 100 := by have := digP_len ds; unfold digM; split <;> simp <;> omega
theorem digP_get (ds : List UInt8) {i : Nat} (h : i < ds.length) (h2 : i < 99) : (digP ds)[i]? = some (((ds[i]).toNat % 10 : Nat) : Int) := by
  simp [digP, List.getElem?_take, h2, h]
theorem tailM_len (ds : List UInt8) : (tailM ds).length ≤ 50 := by
  unfold tailM
  exact Nat.le_trans (List.length_filter_le _ _) (by rw [List.length_take]; omega)
theorem take_next {α : Type} {l : List α} {i : Nat} {x : α} (h : l[i]? = some x) : l.take (i + 1) = l.take i ++ [x] := by
  rw [List.take_add_one, h]; rfl

theorem digits_sound (ds : List UInt8) (neg : Bool) (tl : List UInt8) : Sound Try.prog 22 [numA ds neg tl] (.lst (.tip 3 1) 1 (inL (digM ds))) := by
  refine sound_of_N Try.func22 rfl (by decide +kernel) (by simp [Try.f22]) rfl rfl (rs := [.tmp 2]) rfl ?_
  rw [show Try.f22.ntmps = 34 from rfl]
  obtain ⟨hl1, hl2⟩ := digP_len ds
  refine W_evK [1] (by simp; rfl) ?_
  refine W_evK [1, 3] (by simp; rfl) ?_
  refine W_seq ?_
  refine W_evK [1, 3, 4] (by simp; rfl) ?_
  refine W_block ?_
  refine W_loop (fun k s => ∃ (i : Nat) (fl : Fl), k = ds.length - i ∧ i ≤ ds.length ∧ i ≤ 99 ∧ (i = 0 ∧ fl = .nil ∨ fl = .tip 3 51) ∧ s = ⟨34, [(1, .loc 0 0), (3, .lst fl 1 (inL ((digP ds).take i))), (4, .v (.int .i64 i))], [.cells 37 [.lst .any 1 (byL ds), .v (.bool neg), .lst .any 1 (byL tl)]]⟩) (k := ds.length) ⟨0, _, rfl, by omega, by omega, .inl ⟨rfl, rfl⟩, by simp⟩ ?_
  rintro k s ⟨i, fl, rfl, hi, hi2, hfl, rfl⟩
  refine W_seq ?_
  by_cases h12 : i < ds.length ∧ i < 99
  · obtain ⟨h1, h2⟩ := h12
    have h1' : (i : Int) < ds.length := by omega
    have h2' : (i : Int) < 99 := by omega
    have hb : (byL ds)[i]? = some (.v (.int .u8 (ds[i]).toNat)) := by simp [byL_get, h1]
    have hd := digP_get ds h1 h2
    have ht := take_next hd
    obtain ⟨b, hbb⟩ : ∃ b, b = ds[i] := ⟨_, rfl⟩
    rw [← hbb] at hb hd ht
    have hrem : (b.toNat : Int).tmod 10 = (b.toNat % 10 : Nat) := (Int.ofNat_tmod b.toNat 10).symm
    obtain ⟨m, hm⟩ : ∃ m, m = b.toNat % 10 := ⟨_, rfl⟩
    rw [← hm] at hrem hd ht
    have hw : IntKind.i64.wrap (m : Int) = m := w64 (by omega) (by omega)
    have hcap : (List.take i (digP ds)).length + 1 ≤ 140737488355328 := by rw [List.length_take]; omega
    have hcap0 : (min i (digP ds).length + 1) * 8 ≤ 140737488355328 := by omega
    refine W_evK [1, 3, 4, 13] (by simp [h1, h2, h1', h2']; rfl) ?_
    refine W_cond rfl (fun h => ?_) (fun h => by cases h)
    refine W_skip ?_
    refine W_seq ?_
    refine W_block ?_
    rcases hfl with ⟨rfl, rfl⟩ | rfl
    · refine W_evE [1, 3, 4] (by simp [hb, hrem, hw]; rfl) ?_
      refine W_evE [1, 3, 4] (by simp; rfl) ?_
      exact ⟨_, by omega, 1, _, rfl, by omega, by omega, .inr rfl, by simp at ht; simp (disch := first | omega | simp) [ht, inL, w64]⟩
    · refine W_evE [1, 3, 4] (by simp [hb, hrem, hw, hcap0]; rfl) ?_
      refine W_evE [1, 3, 4] (by simp; rfl) ?_
      exact ⟨_, by omega, i + 1, _, rfl, by omega, by omega, .inr rfl, by simp (disch := first | omega | simp) [ht, inL, w64]⟩
  · have hil : i = (digP ds).length := by simp [digP]; omega
    have hall : (digP ds).take i = digP ds := List.take_of_length_le (by omega)
    rw [hall]
    refine W_cut (fun s => s = ⟨34, [(1, .loc 0 0), (3, .lst fl 1 (inL (digP ds))), (13, .v (.bool false))], [.cells 37 [.lst .any 1 (byL ds), .v (.bool neg), .lst .any 1 (byL tl)]]⟩) ?_ ?_
    · by_cases h1 : i < ds.length
      · have h2 : ¬ i < 99 := by omega
        have h1' : (i : Int) < ds.length := by omega
        have h2' : ¬ (i : Int) < 99 := by omega
        refine W_evE [1, 3, 13] (by simp [h1, h2, h1', h2']; rfl) ?_
        simp
      · have h1' : ¬ (i : Int) < ds.length := by omega
        refine W_evE [1, 3, 13] (by simp [h1, h1']; rfl) ?_
        simp
    rintro _ rfl
    refine W_cond rfl (fun h => by cases h) (fun h => ?_)
    refine W_exit ?_
    refine W_seq ?_
    have hrem : ((digP ds).length : Int).tmod 2 = ((digP ds).length % 2 : Nat) := (Int.ofNat_tmod _ _).symm
    by_cases hev : (digP ds).length % 2 = 0
    · rw [hev] at hrem
      have hd : digM ds = digP ds ++ [0] := by simp [digM, hev]
      have hin : inL (digM ds) = inL (digP ds) ++ [.v (.int .i64 0)] := by rw [hd]; simp [inL]
      have hcap : ((digP ds).length + 1) * 8 ≤ 140737488355328 := by omega
      refine W_evK [3, 29] (by simp [hrem]; rfl) ?_
      refine W_cond rfl (fun h => ?_) (fun h => by cases h)
      rcases hfl with ⟨h0, rfl⟩ | rfl
      · have hn : digP ds = [] := List.eq_nil_of_length_eq_zero (by omega)
        rw [hn] at hin
        rw [hn]
        refine W_evE [3] (by simp; rfl) ?_
        refine W_evK [2] (by simp; rfl) ?_
        refine W_ret ?_
        exact ⟨_, by simp [retQ]; exact ⟨rfl, by simp⟩, .inl fun T => by simp [AV.norm, hin]⟩
      · refine W_evE [3] (by simp [hcap]; rfl) ?_
        refine W_evK [2] (by simp; rfl) ?_
        refine W_ret ?_
        exact ⟨_, by simp [retQ]; exact ⟨rfl, by simp⟩, .inl fun T => by simp [AV.norm, hin]⟩
    · have hrem' : ((digP ds).length : Int).tmod 2 = 1 := by omega
      have hd : digM ds = digP ds := by simp [digM, hev]
      have hfl' : fl = .tip 3 51 := by rcases hfl with ⟨h0, _⟩ | h; omega; exact h
      subst hfl'
      refine W_evK [3, 29] (by simp [hrem']; rfl) ?_
      refine W_cond rfl (fun h => by cases h) (fun h => ?_)
      refine W_skip ?_
      refine W_evK [2] (by simp; rfl) ?_
      refine W_ret ?_
      exact ⟨_, by simp [retQ]; exact ⟨rfl, by simp⟩, .inl fun T => by simp [AV.norm, hd]⟩

theorem tail_sound (ds : List UInt8) (neg : Bool) (tl : List UInt8) : Sound Try.prog 28 [numA ds neg tl] (.lst .any 1 (byL (tailM tl))) := by
  refine sound_of_N Try.func28 rfl (by decide +kernel) (by simp [Try.f28]) rfl rfl (rs := [.tmp 2]) rfl ?_
  rw [show Try.f28.ntmps = 31 from rfl]
  refine W_evK [1] (by simp; rfl) ?_
  refine W_evK [1, 3] (by simp; rfl) ?_
  refine W_seq ?_
  refine W_evK [1, 3, 4] (by simp; rfl) ?_
  refine W_block ?_
  refine W_loop (fun k s => ∃ (i : Nat) (fl : Fl) (l : List UInt8), k = tl.length - i ∧ i ≤ tl.length ∧ i ≤ 50 ∧ (l = [] ∧ fl = .nil ∨ fl = .tip 5 59) ∧ l.length ≤ i ∧ l = (tl.take i).filter plainM ∧ s = ⟨31, [(1, .loc 0 0), (3, .lst fl 1 (byL l)), (4, .v (.int .i64 i))], [.cells 37 [.lst .any 1 (byL ds), .v (.bool neg), .lst .any 1 (byL tl)]]⟩) (k := tl.length) ⟨0, _, [], rfl, by omega, by omega, .inl ⟨rfl, rfl⟩, by simp, by simp, by simp⟩ ?_
  rintro k s ⟨i, fl, l, rfl, hi, hi2, hfl, hll, hl, rfl⟩
  refine W_seq ?_
  by_cases h12 : i < tl.length ∧ i < 50
  · obtain ⟨h1, h2⟩ := h12
    have h1' : (i : Int) < tl.length := by omega
    have h2' : (i : Int) < 50 := by omega
    have hb : (byL tl)[i]? = some (.v (.int .u8 (tl[i]).toNat)) := by simp [byL_get, h1]
    have hd : tl[i]? = some tl[i] := by simp [h1]
    have ht := take_next hd
    obtain ⟨b, hbb⟩ : ∃ b, b = tl[i] := ⟨_, rfl⟩
    rw [← hbb] at hb hd ht
    have hcap : l.length + 1 ≤ 140737488355328 := by omega
    refine W_evK [1, 3, 4, 13] (by simp [h1, h2, h1', h2']; rfl) ?_
    refine W_cond rfl (fun h => ?_) (fun h => by cases h)
    refine W_skip ?_
    refine W_seq ?_
    refine W_block ?_
    refine W_rK [1, 3, 4, 21] ?_
    refine runA_pre 5 (by simp [hb]; rfl) rfl ?_
    refine runA_call (by simp) (by simp; rfl) (plain_sound b) (by simp; rfl) ?_
    refine runA_fin (by simp; rfl) ?_
    refine W_cond rfl (fun h => ?_) (fun h => ?_)
    · have hpl : plainM b = true := by simpa [plainM] using h
      have hn : (tl.take (i + 1)).filter plainM = l ++ [b] := by rw [ht, List.filter_append, ← hl]; simp [hpl]
      rcases hfl with ⟨rfl, rfl⟩ | rfl
      · refine W_evE [1, 3, 4] (by simp [hb]; rfl) ?_
        refine W_evE [1, 3, 4] (by simp; rfl) ?_
        exact ⟨_, by omega, i + 1, _, [b], rfl, by omega, by omega, .inr rfl, by simp, by rw [hn]; rfl, by simp (disch := first | omega | simp) [byL, w64]⟩
      · refine W_evE [1, 3, 4] (by simp [hb, hcap]; rfl) ?_
        refine W_evE [1, 3, 4] (by simp; rfl) ?_
        exact ⟨_, by omega, i + 1, _, l ++ [b], rfl, by omega, by omega, .inr rfl, by simp; omega, by rw [hn], by simp (disch := first | omega | simp) [byL, w64]⟩
    · have hpl : plainM b = false := by simpa [plainM] using h
      have hn : (tl.take (i + 1)).filter plainM = l := by rw [ht, List.filter_append, ← hl]; simp [hpl]
      refine W_skip ?_
      refine W_evE [1, 3, 4] (by simp; rfl) ?_
      exact ⟨_, by omega, i + 1, _, l, rfl, by omega, by omega, hfl, by omega, hn.symm, by simp (disch := first | omega | simp) [w64]⟩
  · have hall : tailM tl = l := by
      rw [hl]
      unfold tailM
      congr 1
      rcases Nat.lt_or_ge i 50 with h | h
      · rw [List.take_of_length_le (by omega), List.take_of_length_le (by omega)]
      · rw [show i = 50 by omega]
    rw [hall]
    refine W_cut (fun s => s = ⟨31, [(1, .loc 0 0), (3, .lst fl 1 (byL l)), (13, .v (.bool false))], [.cells 37 [.lst .any 1 (byL ds), .v (.bool neg), .lst .any 1 (byL tl)]]⟩) ?_ ?_
    · by_cases h1 : i < tl.length
      · have h2 : ¬ i < 50 := by omega
        have h1' : (i : Int) < tl.length := by omega
        have h2' : ¬ (i : Int) < 50 := by omega
        refine W_evE [1, 3, 13] (by simp [h1, h2, h1', h2']; rfl) ?_
        simp
      · have h1' : ¬ (i : Int) < tl.length := by omega
        refine W_evE [1, 3, 13] (by simp [h1, h1']; rfl) ?_
        simp
    rintro _ rfl
    refine W_cond rfl (fun h => by cases h) (fun h => ?_)
    refine W_exit ?_
    refine W_evK [2] (by simp; rfl) ?_
    refine W_ret ?_
    rcases hfl with ⟨rfl, rfl⟩ | rfl
    · exact ⟨_, by simp [retQ]; exact ⟨rfl, by simp⟩, .inr (by simp)⟩
    · exact ⟨_, by simp [retQ]; exact ⟨rfl, by simp⟩, .inr (by simp)⟩
end Go.AM
