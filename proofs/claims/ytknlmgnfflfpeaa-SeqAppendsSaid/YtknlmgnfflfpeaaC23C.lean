/- The specification's Cost, Used, record; Valid, both; Fits, both; One, Copy. -/
import Derived.Test.YtknlmgnfflfpeaaC23B
namespace Go.AM
open Go.RowKit Go.Proofs
set_option linter.unusedSimpArgs false
set_option linter.unusedVariables false
set_option maxHeartbeats 1000000

theorem rrec_sound (r : Rec) : Sound Try.prog 75 [recA r] (.v (.bool (vrec r))) := by
  refine sound_of_W Try.func75 rfl (by decide +kernel) (by simp [Try.f75]) rfl rfl (rs := [.tmp 2]) rfl ?_
  rw [show Try.f75.ntmps = 17 from rfl]
  refine W_evK [1] (by simp; rfl) ?_
  have e3 : decide ((r.key.length : Int) ≤ 255) = decide (r.key.length ≤ 255) := by rw [Bool.eq_iff_iff]; simp; omega
  by_cases c1 : 1 ≤ r.R
  · by_cases c2 : r.R ≤ 255
    · have hv : vrec r = decide (r.key.length ≤ 255) := by simp [vrec, c1, c2]
      rw [hv]
      refine W_rK [2] ?_
      refine runA_pre 6 (by simp [c1]; rfl) rfl ?_
      refine runA_pre 6 (by simp [c2]; rfl) rfl ?_
      refine runA_fin (by simp [e3]; rfl) ?_
      refine W_ret ?_
      repeat (first | refine on_ret ?_ | refine in_ret ?_)
      simp [retQ]
    · have hv : vrec r = false := by simp [vrec, c2]
      rw [hv]
      refine W_rK [2] ?_
      refine runA_pre 6 (by simp [c1]; rfl) rfl ?_
      refine runA_pre 6 (by simp [c2]; rfl) rfl ?_
      refine runA_fin (by simp; rfl) ?_
      refine W_ret ?_
      repeat (first | refine on_ret ?_ | refine in_ret ?_)
      simp [retQ]
  · have hv : vrec r = false := by simp [vrec, c1]
    rw [hv]
    refine W_rK [2] ?_
    refine runA_pre 6 (by simp [c1]; rfl) rfl ?_
    refine runA_pre 6 (by simp; rfl) rfl ?_
    refine runA_fin (by simp; rfl) ?_
    refine W_ret ?_
    repeat (first | refine on_ret ?_ | refine in_ret ?_)
    simp [retQ]
theorem rcost_sound (r : Rec) (h : recSm r) : Sound Try.prog 77 [recA r] (.v (.int .i64 (costM r : Nat))) := by
  refine sound_of_W Try.func77 rfl (by decide +kernel) (by simp [Try.f77]) rfl rfl (rs := [.tmp 2]) rfl ?_
  rw [show Try.f77.ntmps = 19 from rfl]
  obtain ⟨h1, h2⟩ := h
  have w1 : IntKind.i64.wrap (32 + (r.data.length : Int)) = ((32 + r.data.length : Nat) : Int) := by rw [w64 (by omega) (by omega)]; omega
  have w2 : IntKind.i64.wrap (((32 + r.data.length : Nat) : Int) + 16) = ((32 + r.data.length + 16 : Nat) : Int) := by rw [w64 (by omega) (by omega)]; omega
  have w3 : IntKind.i64.wrap (((32 + r.data.length + 16 : Nat) : Int) + (r.key.length : Int)) = ((32 + r.data.length + 16 + r.key.length : Nat) : Int) := by rw [w64 (by omega) (by omega)]; omega
  refine W_evK [1] (by simp; rfl) ?_
  refine W_evK [1, 3] (by simp [w1, -Int.natCast_add]; rfl) ?_
  refine W_seq ?_
  by_cases c : r.key = []
  · have hc : costM r = 32 + r.data.length := by unfold costM; rw [if_pos c]; omega
    rw [hc]
    refine W_evK [1, 3, 11] (by simp [c]; rfl) ?_
    refine W_cond rfl (fun h => by simp at h) (fun h => ?_)
    refine W_skip ?_
    refine W_evK [2] (by simp; rfl) ?_
    refine W_ret ?_
    repeat (first | refine on_ret ?_ | refine in_ret ?_)
    simp [retQ]
  · have hc : costM r = 32 + r.data.length + 16 + r.key.length := by unfold costM; rw [if_neg c]; omega
    have hl : 0 < r.key.length := List.length_pos_iff.2 c
    have hli : (0 : Int) < r.key.length := by omega
    rw [hc]
    refine W_evK [1, 3, 11] (by simp [c, hli, hl]; rfl) ?_
    refine W_cond rfl (fun h => ?_) (fun h => by simp at h)
    have w2' : IntKind.i64.wrap (32 + (r.data.length : Int) + 16) = 32 + (r.data.length : Int) + 16 := w64 (by omega) (by omega)
    have w3' : IntKind.i64.wrap (32 + (r.data.length : Int) + 16 + (r.key.length : Int)) = 32 + (r.data.length : Int) + 16 + (r.key.length : Int) := w64 (by omega) (by omega)
    refine W_evE [3] (by simp [w2', w3']; rfl) ?_
    refine W_evK [2] (by simp; rfl) ?_
    refine W_ret ?_
    repeat (first | refine on_ret ?_ | refine in_ret ?_)
    simp [retQ, w2', w3']
theorem rused_sound (t : List Rec) (ht : trSm t) : Sound Try.prog 76 [.lst .any 4 (trL t)] (.v (.int .i64 (usedM t : Nat))) := by
  refine sound_of_W Try.func76 rfl (by decide +kernel) (by simp [Try.f76]) rfl rfl (rs := [.tmp 2]) rfl ?_
  rw [show Try.f76.ntmps = 19 from rfl]
  refine W_evK [0] (by simp; rfl) ?_
  refine W_evK [0, 3] (by simp; rfl) ?_
  refine W_seq ?_
  refine W_evK [0, 3, 4] (by simp; rfl) ?_
  refine W_block ?_
  refine W_loop (fun k s => ∃ i : Nat, k = t.length - i ∧ i ≤ t.length ∧ s = ⟨19, [(0, .lst .any 4 (trL t)), (3, .v (.int .i64 (usedM (t.take i) : Nat))), (4, .v (.int .i64 (i : Nat)))], []⟩) (k := t.length) ⟨0, rfl, by omega, by simp [usedM]⟩ ?_
  rintro k s ⟨i, rfl, hi, rfl⟩
  refine W_seq ?_
  by_cases c : i < t.length
  · have ci : (i : Int) < t.length := by omega
    obtain ⟨r, hri⟩ : ∃ r, t[i]? = some r := ⟨_, List.getElem?_eq_getElem c⟩
    have hr2 : t[i]'c = r := by rw [List.getElem?_eq_getElem c] at hri; exact Option.some.inj hri
    have hrs := ht.2 r (List.mem_of_getElem? hri)
    have h6 := ht.1
    have wi := w64 (n := (i : Int) + 1) (by omega) (by omega)
    have htk : t.take (i + 1) = t.take i ++ [r] := by rw [List.take_add_one, hri]; rfl
    have hle := usedM_le (t := t.take i) fun x hx => ht.2 x (List.mem_of_mem_take hx)
    have hc := costM_le hrs
    have wu : IntKind.i64.wrap ((usedM (t.take i) : Nat) + (costM r : Nat) : Int) = ((usedM (t.take (i + 1)) : Nat) : Int) := by
      rw [htk, usedM_snoc, w64 (by omega) (by rw [List.length_take] at hle; omega)]; omega
    refine W_evK [0, 3, 4, 8] (by simp [c]; rfl) ?_
    refine W_cond rfl (fun h => ?_) (fun h => by simp at h)
    refine W_skip ?_
    refine W_seq ?_
    refine W_block ?_
    refine W_rE [0, 3, 4] ?_
    refine runA_pre 5 (by simp [c, ci, hr2]; rfl) rfl ?_
    refine runA_call (by simp) (by first | (simp; done) | (simp; rfl)) (rcost_sound r hrs) (by simp; rfl) ?_
    refine runA_fin (by simp [wu]; rfl) ?_
    refine W_evE [0, 3, 4] (by simp [wi]; rfl) ?_
    exact ⟨_, by omega, i + 1, rfl, by omega, by simp⟩
  · refine W_evK [0, 3, 4, 8] (by simp [c]; rfl) ?_
    refine W_cond rfl (fun h => by simp at h) (fun h => ?_)
    refine W_exit ?_
    have hie : i = t.length := by omega
    subst hie
    rw [List.take_length]
    refine W_evK [2] (by simp; rfl) ?_
    refine W_ret ?_
    repeat (first | refine on_ret ?_ | refine in_ret ?_)
    simp [retQ]

def vgo : Option Int → List Rec → Bool
  | _, [] => true
  | p, r :: t => vrec r && (match p with | none => true | some x => decide (x < r.R)) && vgo (some r.R) t
theorem vgo_cons (p : Option Int) (r : Rec) (t : List Rec) : vgo p (r :: t) = (vrec r && (match p with | none => true | some x => decide (x < r.R)) && vgo (some r.R) t) := by cases p <;> rfl
theorem vgo_nil (p : Option Int) : vgo p [] = true := by cases p <;> rfl
def vtrk (t : List Rec) : Bool := vgo none t && decide (usedM t ≤ 2048)
def prevR (t : List Rec) (i : Nat) : Option Int := if i = 0 then none else (t[i - 1]?).map (·.R)
def badR (p : Option Int) (r : Rec) : Bool := !(vrec r && (match p with | none => true | some x => decide (x < r.R)))
theorem vgo_step {t : List Rec} {i : Nat} {r : Rec} (h : t[i]? = some r) : vgo (prevR t i) (t.drop i) = (!badR (prevR t i) r && vgo (prevR t (i + 1)) (t.drop (i + 1))) := by
  have c := (List.getElem?_eq_some_iff.1 h).1
  have hr2 : t[i]'c = r := by rw [List.getElem?_eq_getElem c] at h; exact Option.some.inj h
  rw [List.drop_eq_getElem_cons c, hr2, vgo_cons]
  have e : prevR t (i + 1) = some r.R := by simp [prevR, h]
  rw [e]
  unfold badR
  rw [Bool.not_not]
theorem valid_sound15 (t : List Rec) (ht : trSm t) : Sound Try.prog 24 [.lst .any 4 (trL t)] (.v (.bool (vtrk t))) := by
  refine sound_of_W Try.func24 rfl (by decide +kernel) (by simp [Try.f24]) rfl rfl (rs := [.tmp 2]) rfl ?_
  rw [show Try.f24.ntmps = 34 from rfl]
  have h6 := ht.1
  refine W_evK [0] (by simp; rfl) ?_
  refine W_seq ?_
  refine W_evK [0, 5, 6, 7] (by simp; rfl) ?_
  refine W_block ?_
  refine W_loop (fun k s => ∃ i : Nat, k = t.length - i ∧ i ≤ t.length ∧ vgo none t = vgo (prevR t i) (t.drop i) ∧ s = ⟨34, [(0, .lst .any 4 (trL t)), (5, .lst .any 4 (trL t)), (6, .v (.int .i64 (t.length : Nat))), (7, .v (.int .i64 (i : Nat)))], []⟩) (k := t.length) ⟨0, rfl, by omega, rfl, by simp⟩ ?_
  rintro k s ⟨i, rfl, hi, hgo, rfl⟩
  by_cases c : i < t.length
  · have ci : (i : Int) < t.length := by omega
    obtain ⟨r, hri⟩ : ∃ r, t[i]? = some r := ⟨_, List.getElem?_eq_getElem c⟩
    have hr2 : t[i]'c = r := by rw [List.getElem?_eq_getElem c] at hri; exact Option.some.inj hri
    have wi := w64 (n := (i : Int) + 1) (by omega) (by omega)
    have hst := vgo_step hri
    have hv := vrec_sound r
    refine W_evK [0, 5, 6, 7, 8] (by simp [c]; rfl) ?_
    refine W_seq ?_
    refine W_cond rfl (fun h => ?_) (fun h => by simp at h)
    refine W_skip ?_
    refine W_seq ?_
    refine W_block ?_
    refine W_evK [0, 5, 6, 7, 3, 4] (by simp [c, ci, hr2, setSeg]; rfl) ?_
    refine W_seqC (fun s => ∃ H, s = ⟨34, [(0, .lst .any 4 (trL t)), (5, .lst .any 4 (trL t)), (6, .v (.int .i64 (t.length : Nat))), (7, .v (.int .i64 (i : Nat))), (29, .v (.bool (badR (prevR t i) r)))], H⟩) ?_ ?_
    · cases hvr : vrec r with
      | false =>
        rw [hvr] at hv
        have hB : badR (prevR t i) r = true := by simp [badR, hvr]
        rw [hB]
        refine W_rdE [0, 5, 6, 7, 29] mx (by decide +kernel) ?_
        refine runD_pre 1 (by simp; rfl) rfl ?_
        refine runD_call (by simp) (by first | (simp; done) | (simp; rfl)) hv (by simp; rfl) ?_
        refine runD_pre 6 (by simp; rfl) rfl ?_
        refine runD_pre 6 (by simp; rfl) rfl ?_
        refine runD_fin (by simp; rfl) ?_
        exact ⟨_, by simp; rfl⟩
      | true =>
        rw [hvr] at hv
        by_cases z : i = 0
        · subst z
          have hB : badR (prevR t 0) r = false := by simp [badR, hvr, prevR]
          rw [hB]
          refine W_rdE [0, 5, 6, 7, 29] mx (by decide +kernel) ?_
          refine runD_pre 1 (by simp; rfl) rfl ?_
          refine runD_call (by simp) (by first | (simp; done) | (simp; rfl)) hv (by simp; rfl) ?_
          refine runD_pre 6 (by simp; rfl) rfl ?_
          refine runD_pre 6 (by simp; rfl) rfl ?_
          refine runD_fin (by simp; rfl) ?_
          exact ⟨_, by simp; rfl⟩
        · obtain ⟨j, rfl⟩ : ∃ j, i = j + 1 := ⟨i - 1, by omega⟩
          obtain ⟨q, hqi⟩ : ∃ q, t[j]? = some q := ⟨_, List.getElem?_eq_getElem (by omega)⟩
          have hj : j < t.length := by omega
          have hji : (j : Int) < t.length := by omega
          have hq2 : t[j]'hj = q := by rw [List.getElem?_eq_getElem hj] at hqi; exact Option.some.inj hqi
          have hB : badR (prevR t (j + 1)) r = decide (r.R ≤ q.R) := by
            simp only [badR, hvr, prevR, Bool.true_and]
            rw [if_neg (by omega)]
            simp [hqi]
            rw [Bool.eq_iff_iff]; simp
          rw [hB]
          have zi : (0 : Int) < ((j + 1 : Nat) : Int) := by omega
          have wj' : IntKind.i64.wrap (j : Int) = (j : Int) := w64 (by omega) (by omega)
          have wj : IntKind.i64.wrap (((j + 1 : Nat) : Int) - 1) = (j : Int) := by rw [w64 (by omega) (by omega)]; omega
          refine W_rdE [0, 5, 6, 7, 29] mx (by decide +kernel) ?_
          refine runD_pre 1 (by simp; rfl) rfl ?_
          refine runD_call (by simp) (by first | (simp; done) | (simp; rfl)) hv (by simp; rfl) ?_
          refine runD_pre 6 (by simp [zi, -Int.natCast_add]; rfl) rfl ?_
          refine runD_pre 6 (by simp [wj, wj', hj, hji, hq2]; rfl) rfl ?_
          refine runD_fin (by simp; rfl) ?_
          exact ⟨_, by simp; rfl⟩
    rintro _ ⟨H, rfl⟩
    cases hb : badR (prevR t i) r with
    | true =>
      have hF : vtrk t = false := by simp [vtrk, hgo, hst, hb]
      rw [hF]
      refine W_cond rfl (fun h => ?_) (fun h => by simp at h)
      refine W_evK [2] (by simp; rfl) ?_
      refine W_ret ?_
      repeat (first | refine on_ret ?_ | refine in_ret ?_)
      simp [retQ]
    | false =>
      refine W_cond rfl (fun h => by simp at h) (fun h => ?_)
      refine W_keepS [0, 5, 6, 7] ?_
      refine W_cutH 0 (by omega) (by omega) rfl (by simp [underH]) ?_
      refine W_skip ?_
      refine W_evE [0, 5, 6, 7] (by simp [wi]; rfl) ?_
      exact ⟨_, by omega, i + 1, rfl, by omega, by rw [hgo, hst, hb]; rfl, by simp⟩
  · refine W_evK [0, 5, 6, 7, 8] (by simp [c]; rfl) ?_
    refine W_seq ?_
    refine W_cond rfl (fun h => by simp at h) (fun h => ?_)
    refine W_exit ?_
    have hie : i = t.length := by omega
    subst hie
    rw [List.drop_length, vgo_nil] at hgo
    have hT : vtrk t = decide (usedM t ≤ 2048) := by simp [vtrk, hgo]
    have e3 : decide ((usedM t : Int) ≤ 2048) = decide (usedM t ≤ 2048) := by rw [Bool.eq_iff_iff]; simp; omega
    rw [hT]
    refine W_rK [2] ?_
    refine runA_pre 1 (by simp; rfl) rfl ?_
    refine runA_call (by simp) (by first | (simp; done) | (simp; rfl)) (used_sound t ht) (by simp; rfl) ?_
    refine runA_fin (by simp [e3]; rfl) ?_
    refine W_ret ?_
    repeat (first | refine on_ret ?_ | refine in_ret ?_)
    simp [retQ]
end Go.AM
