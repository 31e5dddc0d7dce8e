/- track.Used. -/
import Derived.Test.YtknlmgnfflfpeaaC23A
namespace Go.AM
open Go.RowKit Go.Proofs
set_option linter.unusedSimpArgs false
set_option linter.unusedVariables false
set_option maxHeartbeats 1000000

theorem underH_app (m : Nat) : ∀ (a b : List AObj), underH m (a ++ b) = (underH m a && underH m b)
  | [], b => rfl
  | o :: a, b => by simp only [List.cons_append, underH, underH_app m a b, Bool.and_assoc]
theorem costs_callW (t : List Rec) (h : List AObj) (hh : underH (h.length + 1) h = true) : CallW Try.prog 61 [.lst .any 4 (trL t)] h fun r h' => r = .fn (.func 71) [] [.loc h.length 0] ∧ h' = h ++ [.cells 46 [.lst .any 4 (trL t)]] := by
  refine callW_of_W Try.func61 rfl (by decide +kernel) (by simp [Try.f61]) (rs := [.tmp 2]) rfl ?_
  rw [show Try.f61.ntmps = 4 from rfl]
  refine W_evK [1] (by simp; rfl) ?_
  refine W_evK [2] (by simp; rfl) ?_
  refine W_ret ?_
  repeat (first | refine on_ret ?_ | refine in_ret ?_)
  refine ⟨.inr rfl, .fn (.func 71) [] [.loc h.length 0], .fn (.func 71) [] [.loc h.length 0], h ++ [.cells 46 [.lst .any 4 (trL t)]], h.length + 1, by simp, .inl ⟨rfl, by simp⟩, by omega, by simp, by simp [AV.under, AV.underL], ?_, rfl, ?_⟩
  · rw [List.take_of_length_le (by simp), underH_app, hh]
    simp [underH, AObj.under, AV.under, AV.underL]
  · rw [List.take_of_length_le (by simp)]

theorem used_sound (t : List Rec) (ht : trSm t) : Sound Try.prog 43 [.lst .any 4 (trL t)] (.v (.int .i64 (usedM t : Nat))) := by
  refine sound_of_W Try.func43 rfl (by decide +kernel) (by simp [Try.f43]) rfl rfl (rs := [.tmp 2]) rfl ?_
  rw [show Try.f43.ntmps = 14 from rfl]
  refine W_evK [0] (by simp; rfl) ?_
  refine W_evK [0, 3] (by simp [setSeg]; rfl) ?_
  refine W_evK [0, 3, 4] (by simp [setSeg]; rfl) ?_
  refine W_seq ?_
  refine W_rK [3, 4, 8] ?_
  refine runA_pre 1 (by simp; rfl) rfl ?_
  refine runA_obj (f := 61) (args := [.lst .any 4 (trL t)]) (by simp) (by simp) ((costs_callW t _ (by simp [underH, AObj.under, AV.under, AV.underL])).mono ?_)
  rintro r h' ⟨rfl, rfl⟩
  refine ⟨_, by simp; rfl, ?_⟩
  refine runA_fin (by simp; rfl) ?_
  refine W_block ?_
  refine W_rangeFunc (Qc := fun _ h' => h' = [.cells 3 [.v (.int .i64 (usedM t : Nat))], .cells 82 [.fn (.func 60) [] [.loc 0 0]], .cells 46 [.lst .any 4 (trL t)], .loop 14 [(3, .loc 0 0), (4, .loc 1 0), (8, .fn (.func 71) [] [.loc 2 0])] [9] (rfA Try.f43) (rfB Try.f43) .ready]) rfl ?_ ?_
  · refine callW_of_W Try.func71 rfl (by decide +kernel) (by simp [Try.f71]) (rs := []) rfl ?_
    rw [show Try.f71.ntmps = 17 from rfl]
    refine W_evK [0, 5, 6, 7] (by simp; rfl) ?_
    refine W_block ?_
    refine W_loop (fun k s => ∃ i : Nat, k = t.length - i ∧ i ≤ t.length ∧ s = ⟨17, [(0, .yld 3), (5, .lst .any 4 (trL t)), (6, .v (.int .i64 (t.length : Nat))), (7, .v (.int .i64 (i : Nat)))],
      [.cells 3 [.v (.int .i64 (usedM (t.take i) : Nat))], .cells 82 [.fn (.func 60) [] [.loc 0 0]], .cells 46 [.lst .any 4 (trL t)], .loop 14 [(3, .loc 0 0), (4, .loc 1 0), (8, .fn (.func 71) [] [.loc 2 0])] [9] (rfA Try.f43) (rfB Try.f43) .ready]⟩) (k := t.length) ⟨0, rfl, by omega, ?_⟩ ?_
    · simp [usedM]
      exact ⟨rfl, rfl, rfl⟩
    rintro k s ⟨i, rfl, hi, rfl⟩
    by_cases c : i < t.length
    · have ci : (i : Int) < t.length := by omega
      obtain ⟨r, hri⟩ : ∃ r, t[i]? = some r := ⟨_, List.getElem?_eq_getElem c⟩
      have hr2 : t[i]'c = r := by rw [List.getElem?_eq_getElem c] at hri; exact Option.some.inj hri
      have hrs := ht.2 r (List.mem_of_getElem? hri)
      have wi := w64 (n := (i : Int) + 1) (by omega) (by have := ht.1; omega)
      refine W_evK [0, 5, 6, 7, 8] (by simp [c]; rfl) ?_
      refine W_seq ?_
      refine W_cond rfl (fun h => ?_) (fun h => by simp at h)
      refine W_skip ?_
      refine W_seq ?_
      refine W_block ?_
      refine W_evK [0, 5, 6, 7, 4] (by simp [c, ci, hr2, setSeg]; rfl) ?_
      refine W_rK [0, 5, 6, 7, 15] ?_
      refine runA_pre 2 (by simp; rfl) rfl ?_
      refine runA_call (by simp) (by first | (simp; done) | (simp; rfl)) (cost_sound r hrs) (by simp; rfl) ?_
      refine runA_y (by simp) ?_
      unfold callY
      dsimp only
      refine ⟨3, 14, _, _, _, _, [.v (.int .i64 (costM r : Nat))], by simp, rfl, by simp, by simp, by simp, by simp, ?_⟩
      refine (show Wt _ _ _ _ _ _ from ?_)
      refine W_evE [3, 4, 5] (by simp [setF]; rfl) ?_
      refine ⟨rfl, _, _, _, _, _, rfl, ?_⟩
      refine W_block ?_
      refine W_rE [] ?_
      refine runA_pre 2 (by simp; rfl) rfl ?_
      refine runA_obj (f := 60) (args := [.v (.int .i64 (costM r : Nat)), .loc 0 0]) (by simp) (by simp) ((add_callW _ _ _ ?_).mono ?_)
      · simp [underH, AObj.under, AV.under, AV.underL]
        rfl
      rintro _ h' ⟨rfl, rfl⟩
      refine ⟨_, by simp; rfl, ?_⟩
      refine runA_fin (by simp; rfl) ?_
      refine ⟨14, _, _, _, _, .ready, true, 5, rfl, rfl, by simp, by simp, ?_, ?_⟩
      · simp [underH, AObj.under, AV.under, AV.underL]
        rfl
      refine ⟨_, by simp; rfl, ?_⟩
      refine runA_fin (by simp; rfl) ?_
      refine W_cond rfl (fun h => by simp at h) (fun h => ?_)
      refine W_keepS [0, 5, 6, 7] ?_
      refine W_cutH 4 (by simp) (by simp) rfl (by simp [underH, AObj.under, AV.under, AV.underL]; rfl) ?_
      refine W_skip ?_
      refine W_evE [0, 5, 6, 7] (by simp [wi]; rfl) ?_
      have htk : t.take (i + 1) = t.take i ++ [r] := by rw [List.take_add_one, hri]; rfl
      have hle := usedM_le (t := t.take i) fun x hx => ht.2 x (List.mem_of_mem_take hx)
      have hc := costM_le hrs
      have h6 := ht.1
      have wu : IntKind.i64.wrap ((usedM (t.take i) : Nat) + (costM r : Nat) : Int) = ((usedM (t.take (i + 1)) : Nat) : Int) := by
        rw [htk, usedM_snoc, w64 (by omega) (by rw [List.length_take] at hle; omega)]; omega
      refine ⟨_, by omega, i + 1, rfl, by omega, ?_⟩
      simp [wu]
    · refine W_evK [0, 5, 6, 7, 8] (by simp [c]; rfl) ?_
      refine W_seq ?_
      refine W_cond rfl (fun h => by simp at h) (fun h => ?_)
      refine W_exit ?_
      have hie : i = t.length := by omega
      subst hie
      rw [List.take_length]
      refine ⟨.inl rfl, .tup [], .tup [], _, 4, rfl, .inl ⟨rfl, rfl⟩, by simp, by simp, rfl, ?_, ?_⟩
      · simp [underH, AObj.under, AV.under, AV.underL]
        rfl
      · simp
  · rintro _ _ rfl
    refine ⟨14, _, _, _, _, .ready, rfl, ?_⟩
    refine (show Wt true 0 Try.prog _ _ _ from ?_)
    refine W_evK [2] (by simp; rfl) ?_
    refine W_ret ?_
    repeat (first | refine on_ret ?_ | refine in_ret ?_)
    simp [retQ]
end Go.AM
