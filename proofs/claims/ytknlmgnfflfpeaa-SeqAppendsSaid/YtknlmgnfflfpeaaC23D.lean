/- The specification's Valid; Fits, both; One, Copy; SameRec, Same, SameTracks. -/
import Derived.Test.YtknlmgnfflfpeaaC23C
namespace Go.AM
open Go.RowKit Go.Proofs
set_option linter.unusedSimpArgs false
set_option linter.unusedVariables false
set_option maxHeartbeats 1000000

theorem rvalid_sound15 (t : List Rec) (ht : trSm t) : Sound Try.prog 72 [.lst .any 4 (trL t)] (.v (.bool (vtrk t))) := by
  refine sound_of_W Try.func72 rfl (by decide +kernel) (by simp [Try.f72]) rfl rfl (rs := [.tmp 2]) rfl ?_
  rw [show Try.f72.ntmps = 37 from rfl]
  have h6 := ht.1
  refine W_evK [0] (by simp; rfl) ?_
  refine W_seq ?_
  refine W_evK [0, 3] (by simp; rfl) ?_
  refine W_block ?_
  refine W_loop (fun k s => ∃ i : Nat, k = t.length - i ∧ i ≤ t.length ∧ vgo none t = vgo (prevR t i) (t.drop i) ∧ s = ⟨37, [(0, .lst .any 4 (trL t)), (3, .v (.int .i64 (i : Nat)))], []⟩) (k := t.length) ⟨0, rfl, by omega, rfl, by simp⟩ ?_
  rintro k s ⟨i, rfl, hi, hgo, rfl⟩
  refine W_seq ?_
  by_cases c : i < t.length
  · have ci : (i : Int) < t.length := by omega
    obtain ⟨r, hri⟩ : ∃ r, t[i]? = some r := ⟨_, List.getElem?_eq_getElem c⟩
    have hr2 : t[i]'c = r := by rw [List.getElem?_eq_getElem c] at hri; exact Option.some.inj hri
    have wi := w64 (n := (i : Int) + 1) (by omega) (by omega)
    have hst := vgo_step hri
    have hv := rrec_sound r
    refine W_evK [0, 3, 7] (by simp [c]; rfl) ?_
    refine W_cond rfl (fun h => ?_) (fun h => by simp at h)
    refine W_skip ?_
    refine W_seq ?_
    refine W_block ?_
    refine W_seqC (fun s => ∃ H, s = ⟨37, [(0, .lst .any 4 (trL t)), (3, .v (.int .i64 (i : Nat))), (33, .v (.bool (badR (prevR t i) r)))], H⟩) ?_ ?_
    · cases hvr : vrec r with
      | false =>
        rw [hvr] at hv
        have hB : badR (prevR t i) r = true := by simp [badR, hvr]
        rw [hB]
        refine W_rdE [0, 3, 33] mx (by decide +kernel) ?_
        refine runD_pre 4 (by simp [c, ci, hr2]; rfl) rfl ?_
        refine runD_call (by simp) (by first | (simp; done) | (simp; rfl)) hv (by simp; rfl) ?_
        refine runD_pre 6 (by simp; rfl) rfl ?_
        refine runD_pre 6 (by simp; rfl) rfl ?_
        refine runD_fin (by simp; rfl) ?_
        exact ⟨_, by simp; rfl⟩
      | true =>
        rw [hvr] at hv
        by_cases z : i = 0
        · subst z
          have hB : badR (prevR t 0) r = false := by simp [badR, hvr, prevR]
          rw [hB]
          refine W_rdE [0, 3, 33] mx (by decide +kernel) ?_
          refine runD_pre 4 (by simp [c, ci, hr2]; rfl) rfl ?_
          refine runD_call (by simp) (by first | (simp; done) | (simp; rfl)) hv (by simp; rfl) ?_
          refine runD_pre 6 (by simp; rfl) rfl ?_
          refine runD_pre 6 (by simp; rfl) rfl ?_
          refine runD_fin (by simp; rfl) ?_
          exact ⟨_, by simp; rfl⟩
        · obtain ⟨j, rfl⟩ : ∃ j, i = j + 1 := ⟨i - 1, by omega⟩
          obtain ⟨q, hqi⟩ : ∃ q, t[j]? = some q := ⟨_, List.getElem?_eq_getElem (by omega)⟩
          have hj : j < t.length := by omega
          have hji : (j : Int) < t.length := by omega
          have hq2 : t[j]'hj = q := by rw [List.getElem?_eq_getElem hj] at hqi; exact Option.some.inj hqi
          have hB : badR (prevR t (j + 1)) r = decide (r.R ≤ q.R) := by
            simp only [badR, hvr, prevR, Bool.true_and]
            rw [if_neg (by omega)]
            simp [hqi]
            rw [Bool.eq_iff_iff]; simp
          rw [hB]
          have zi : (0 : Int) < ((j + 1 : Nat) : Int) := by omega
          have zi' : (0 : Int) < (j : Int) + 1 := by omega
          have ci2 : (j : Int) + 1 < t.length := by omega
          have tn : ((j : Int) + 1).toNat = j + 1 := by omega
          have nn : (0 : Int) ≤ (j : Int) + 1 := by omega
          have wj' : IntKind.i64.wrap (j : Int) = (j : Int) := w64 (by omega) (by omega)
          refine W_rdE [0, 3, 33] mx (by decide +kernel) ?_
          refine runD_pre 4 (by simp [c, ci2, hr2, tn, nn]; rfl) rfl ?_
          refine runD_call (by simp) (by first | (simp; done) | (simp; rfl)) hv (by simp; rfl) ?_
          refine runD_pre 6 (by simp [zi']; rfl) rfl ?_
          refine runD_pre 6 (by simp [c, ci2, hr2, tn, nn, hri]; rfl) rfl ?_
          refine runD_fin (by simp [wj', hj, hji, hq2]; rfl) ?_
          exact ⟨_, by simp; rfl⟩
    rintro _ ⟨H, rfl⟩
    cases hb : badR (prevR t i) r with
    | true =>
      have hF : vtrk t = false := by simp [vtrk, hgo, hst, hb]
      rw [hF]
      refine W_cond rfl (fun h => ?_) (fun h => by simp at h)
      refine W_evK [2] (by simp; rfl) ?_
      refine W_ret ?_
      repeat (first | refine on_ret ?_ | refine in_ret ?_)
      simp [retQ]
    | false =>
      refine W_cond rfl (fun h => by simp at h) (fun h => ?_)
      refine W_keepS [0, 3] ?_
      refine W_cutH 0 (by omega) (by omega) rfl (by simp [underH]) ?_
      refine W_skip ?_
      refine W_evE [0, 3] (by simp [wi]; rfl) ?_
      exact ⟨_, by omega, i + 1, rfl, by omega, by rw [hgo, hst, hb]; rfl, by simp⟩
  · refine W_evK [0, 3, 7] (by simp [c]; rfl) ?_
    refine W_cond rfl (fun h => by simp at h) (fun h => ?_)
    refine W_exit ?_
    have hie : i = t.length := by omega
    subst hie
    rw [List.drop_length, vgo_nil] at hgo
    have hT : vtrk t = decide (usedM t ≤ 2048) := by simp [vtrk, hgo]
    have e3 : decide ((usedM t : Int) ≤ 2048) = decide (usedM t ≤ 2048) := by rw [Bool.eq_iff_iff]; simp; omega
    rw [hT]
    refine W_rK [2] ?_
    refine runA_pre 1 (by simp; rfl) rfl ?_
    refine runA_call (by simp) (by first | (simp; done) | (simp; rfl)) (rused_sound t ht) (by simp; rfl) ?_
    refine runA_fin (by simp [e3]; rfl) ?_
    refine W_ret ?_
    repeat (first | refine on_ret ?_ | refine in_ret ?_)
    simp [retQ]

def fitsT (t : List Rec) (r : Rec) : Bool := vtrk t && !badR (prevR t t.length) r && decide (usedM t + costM r ≤ 2048)
theorem fits15_sound (t : List Rec) (r : Rec) (ht : trSm t) (hr : recSm r) : Sound Try.prog 25 [.lst .any 4 (trL t), recA r] (.v (.bool (fitsT t r))) := by
  refine sound_of_W Try.func25 rfl (by decide +kernel) (by simp [Try.f25]) rfl rfl (rs := [.tmp 4]) rfl ?_
  rw [show Try.f25.ntmps = 36 from rfl]
  have h6 := ht.1
  have hvt := valid_sound15 t ht
  have hvr := vrec_sound r
  refine W_evK [0, 3] (by simp; rfl) ?_
  refine W_seq ?_
  refine W_seqC (fun s => s = ⟨36, [(0, .lst .any 4 (trL t)), (3, .loc 0 0), (29, .v (.bool (!vtrk t || badR (prevR t t.length) r)))], [.cells 49 [.v (.int .i64 r.R), .lst .any 1 (byL r.key), .lst .any 1 (byL r.data), .v (.bool r.bad)]]⟩) ?_ ?_
  · cases hv1 : vtrk t with
    | false =>
      rw [hv1] at hvt
      refine W_rdE [0, 3, 29] mx (by decide +kernel) ?_
      refine runD_pre 1 (by simp; rfl) rfl ?_
      refine runD_call (by simp) (by first | (simp; done) | (simp; rfl)) hvt (by simp; rfl) ?_
      refine runD_pre 6 (by simp; rfl) rfl ?_
      refine runD_pre 6 (by simp; rfl) rfl ?_
      refine runD_pre 6 (by simp; rfl) rfl ?_
      refine runD_fin (by simp; rfl) ?_
      simp [onNormal]
    | true =>
      rw [hv1] at hvt
      cases hv2 : vrec r with
      | false =>
        rw [hv2] at hvr
        have hB : badR (prevR t t.length) r = true := by simp [badR, hv2]
        refine W_rdE [0, 3, 29] mx (by decide +kernel) ?_
        refine runD_pre 1 (by simp; rfl) rfl ?_
        refine runD_call (by simp) (by first | (simp; done) | (simp; rfl)) hvt (by simp; rfl) ?_
        refine runD_pre 3 (by simp; rfl) rfl ?_
        refine runD_call (by simp) (by first | (simp; done) | (simp; rfl)) hvr (by simp; rfl) ?_
        refine runD_pre 6 (by simp; rfl) rfl ?_
        refine runD_pre 6 (by simp; rfl) rfl ?_
        refine runD_fin (by simp; rfl) ?_
        simp [onNormal, hB]
      | true =>
        rw [hv2] at hvr
        by_cases z : t = []
        · subst z
          have hB : badR (prevR [] ([] : List Rec).length) r = false := by simp [badR, hv2, prevR]
          refine W_rdE [0, 3, 29] mx (by decide +kernel) ?_
          refine runD_pre 1 (by simp; rfl) rfl ?_
          refine runD_call (by simp) (by first | (simp; done) | (simp; rfl)) hvt (by simp; rfl) ?_
          refine runD_pre 3 (by simp; rfl) rfl ?_
          refine runD_call (by simp) (by first | (simp; done) | (simp; rfl)) hvr (by simp; rfl) ?_
          refine runD_pre 6 (by simp; rfl) rfl ?_
          refine runD_pre 6 (by simp; rfl) rfl ?_
          refine runD_fin (by simp; rfl) ?_
          simp [onNormal, hB] at *
        · have zp : 0 < t.length := List.length_pos_iff.2 z
          obtain ⟨j, hjl⟩ : ∃ j, t.length = j + 1 := ⟨t.length - 1, by omega⟩
          obtain ⟨q, hqi⟩ : ∃ q, t[j]? = some q := ⟨_, List.getElem?_eq_getElem (by omega)⟩
          have hj : j < t.length := by omega
          have hji : (j : Int) < t.length := by omega
          have hq2 : t[j]'hj = q := by rw [List.getElem?_eq_getElem hj] at hqi; exact Option.some.inj hqi
          have hB : badR (prevR t t.length) r = decide (r.R ≤ q.R) := by
            simp only [badR, hv2, prevR, Bool.true_and, hjl]
            rw [if_neg (by omega)]
            simp [hqi]
            rw [Bool.eq_iff_iff]; simp
          have zi : (0 : Int) < t.length := by omega
          have wj : IntKind.i64.wrap ((t.length : Int) - 1) = (j : Int) := by rw [w64 (by omega) (by omega)]; omega
          refine W_rdE [0, 3, 29] mx (by decide +kernel) ?_
          refine runD_pre 1 (by simp; rfl) rfl ?_
          refine runD_call (by simp) (by first | (simp; done) | (simp; rfl)) hvt (by simp; rfl) ?_
          refine runD_pre 3 (by simp; rfl) rfl ?_
          refine runD_call (by simp) (by first | (simp; done) | (simp; rfl)) hvr (by simp; rfl) ?_
          refine runD_pre 6 (by simp [zi, zp, z]; rfl) rfl ?_
          refine runD_pre 6 (by simp [wj]; rfl) rfl ?_
          refine runD_fin (by simp [wj, hj, hji, hq2]; rfl) ?_
          simp [onNormal, hB]
  rintro _ rfl
  cases hb : (!vtrk t || badR (prevR t t.length) r) with
  | true =>
    have hF : fitsT t r = false := by
      unfold fitsT
      cases h1 : vtrk t <;> cases h2 : badR (prevR t t.length) r <;> simp_all
    rw [hF]
    refine W_cond rfl (fun h => ?_) (fun h => by simp at h)
    refine W_evK [4] (by simp; rfl) ?_
    refine W_ret ?_
    repeat (first | refine on_ret ?_ | refine in_ret ?_)
    simp [retQ]
  | false =>
    have hT : fitsT t r = decide (usedM t + costM r ≤ 2048) := by
      unfold fitsT
      cases h1 : vtrk t <;> cases h2 : badR (prevR t t.length) r <;> simp_all
    have hle := usedM_le ht.2
    have hc := costM_le hr
    have wu : IntKind.i64.wrap ((usedM t : Int) + (costM r : Int)) = ((usedM t + costM r : Nat) : Int) := by rw [w64 (by omega) (by omega)]; omega
    have e3 : decide (((usedM t + costM r : Nat) : Int) ≤ 2048) = decide (usedM t + costM r ≤ 2048) := by rw [Bool.eq_iff_iff]; simp; omega
    rw [hT]
    refine W_cond rfl (fun h => by simp at h) (fun h => ?_)
    refine W_skip ?_
    refine W_rdK [4] mx (by decide +kernel) ?_
    refine runD_pre 1 (by simp; rfl) rfl ?_
    refine runD_call (by simp) (by first | (simp; done) | (simp; rfl)) (used_sound t ht) (by simp; rfl) ?_
    refine runD_pre 1 (by simp; rfl) rfl ?_
    refine runD_call (by simp) (by first | (simp; done) | (simp; rfl)) (cost_sound r hr) (by simp; rfl) ?_
    refine runD_fin (by simp [wu, e3, -Int.natCast_add]; rfl) ?_
    refine W_ret ?_
    repeat (first | refine on_ret ?_ | refine in_ret ?_)
    simp [retQ]

theorem oneR_sound (r : Rec) (hr : recSm r) : Sound Try.prog 36 [recA r] (recA r) := by
  refine sound_of_N Try.func36 rfl (by decide +kernel) (by simp [Try.f36]) rfl rfl (rs := [.cell 2 49]) rfl ?_
  rw [show Try.f36.ntmps = 14 from rfl]
  obtain ⟨h1, h2⟩ := hr
  have b1 : r.key.length ≤ 140737488355328 := by omega
  have b2 : r.data.length ≤ 140737488355328 := by omega
  refine W_evK [1, 2] (by simp; rfl) ?_
  refine W_evK [1, 2] (by simp [b1, setSeg]; rfl) ?_
  refine W_evK [1, 2] (by simp [b2, setSeg]; rfl) ?_
  refine W_evK [2] (by simp [setSeg]; rfl) ?_
  refine W_ret ?_
  repeat (first | refine on_ret ?_ | refine in_ret ?_)
  exact ⟨.agg [.v (.int .i64 r.R), .lst (.tip 5 13) 1 (byL r.key), .lst (.tip 5 23) 1 (byL r.data), .v (.bool r.bad)], by simp [retQ], .inr (by simp [AV.plain, AV.plainL])⟩
theorem copyT_sound (t : List Rec) (ht : trSm t) : Sound Try.prog 40 [.lst .any 4 (trL t)] (.lst (.tip 49 1) 4 (trL t)) := by
  refine sound_of_U Try.func40 rfl (by decide +kernel) (by simp [Try.f40]) rfl rfl (rs := [.tmp 2]) rfl ?_
  rw [show Try.f40.ntmps = 20 from rfl]
  have h6 := ht.1
  refine W_evK [0] (by simp; rfl) ?_
  refine W_evK [0, 3] (by simp; rfl) ?_
  refine W_seq ?_
  refine W_evK [0, 3, 4] (by simp; rfl) ?_
  refine W_block ?_
  refine W_loop (fun k s => ∃ (i : Nat) (x : AV), k = t.length - i ∧ i ≤ t.length ∧ ((i = 0 ∧ x = .lst .nil 4 []) ∨ (0 < i ∧ x = .lst (.tip 49 37) 4 (trL (t.take i)))) ∧
    s = ⟨20, [(0, .lst .any 4 (trL t)), (3, x), (4, .v (.int .i64 i))], []⟩) (k := t.length) ⟨0, _, by simp, by omega, .inl ⟨rfl, rfl⟩, by simp⟩ ?_
  rintro k s ⟨i, x, rfl, hi, hx, rfl⟩
  refine W_seq ?_
  by_cases c : i < t.length
  rotate_left
  · refine W_evK [0, 3, 4, 8] (by simp [c]; rfl) ?_
    refine W_cond rfl (fun h => by simp at h) (fun h => ?_)
    refine W_exit ?_
    have hie : i = t.length := by omega
    subst hie
    rw [List.take_length] at hx
    refine W_evK [2] (by simp; rfl) ?_
    refine W_ret ?_
    repeat (first | refine on_ret ?_ | refine in_ret ?_)
    rcases hx with ⟨h0, rfl⟩ | ⟨h0, rfl⟩
    · have : t = [] := List.eq_nil_of_length_eq_zero h0
      subst this
      exact ⟨.lst .nil 4 [], by simp [retQ], .nil (by decide +kernel)⟩
    · exact ⟨_, by simp [retQ]; exact ⟨rfl, by simp⟩, .norm fun T => by simp⟩
  have ci : (i : Int) < t.length := by omega
  obtain ⟨r, hti⟩ : ∃ r, t[i]? = some r := ⟨_, List.getElem?_eq_getElem c⟩
  have ht2 : t[i]'c = r := by rw [List.getElem?_eq_getElem c] at hti; exact Option.some.inj hti
  have hrs := ht.2 r (List.mem_of_getElem? hti)
  have wi := w64 (n := (i : Int) + 1) (by omega) (by omega)
  have htk : t.take (i + 1) = t.take i ++ [r] := by rw [List.take_add_one, hti]; rfl
  have b1 : (i + 1) * 64 ≤ 140737488355328 := by omega
  have b2 : 64 * (i + 1) ≤ 140737488355328 := by omega
  refine W_evK [0, 3, 4, 8] (by simp [c]; rfl) ?_
  refine W_cond rfl (fun h => ?_) (fun h => by simp at h)
  refine W_skip ?_
  refine W_seq ?_
  refine W_block ?_
  rcases hx with ⟨h0, rfl⟩ | ⟨h0, rfl⟩
  · subst h0
    refine W_rE [0, 3, 4] ?_
    refine runA_pre 5 (by simp [c, ci, ht2]; rfl) rfl ?_
    refine runA_call (by simp) (by first | (simp; done) | (simp; rfl)) (oneR_sound r hrs) (by simp; rfl) ?_
    refine runA_fin (by simp [catK, AV.cellsK, AV.kone, AV.koneL]; rfl) ?_
    refine W_evE [0, 3, 4] (by simp [show IntKind.i64.wrap 1 = 1 from rfl]; rfl) ?_
    exact ⟨_, by omega, 1, _, rfl, by omega, .inr ⟨by omega, rfl⟩, by rw [htk]; simp [trL_cons]⟩
  · refine W_rE [0, 3, 4] ?_
    refine runA_pre 5 (by simp [c, ci, ht2]; rfl) rfl ?_
    refine runA_call (by simp) (by first | (simp; done) | (simp; rfl)) (oneR_sound r hrs) (by simp; rfl) ?_
    refine runA_fin (by simp [catK, AV.cellsK, AV.kone, AV.koneL, b1, b2, Nat.min_eq_left hi]; rfl) ?_
    refine W_evE [0, 3, 4] (by simp [wi]; rfl) ?_
    exact ⟨_, by omega, i + 1, _, rfl, by omega, .inr ⟨by omega, rfl⟩, by rw [htk]; simp [trL_append, trL_cons]⟩
end Go.AM
