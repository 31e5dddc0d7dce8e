/- Parts of the walk: C24K C24WG C24WH C24WI C24A. -/
import Derived.Test.YthjcnajpcphcpaaGreatG5
namespace Go.AM
open Go.RowKit Go.Proofs
set_option linter.unusedSimpArgs false
set_option linter.unusedVariables false
set_option maxHeartbeats 4000000
set_option maxRecDepth 20000
theorem dec_and4 {a b : Rec} : decide (a = b) = (decide (a.R = b.R) && (decide (a.bad = b.bad) && (decide (a.key = b.key) && decide (a.data = b.data)))) := by
 obtain ⟨r, k, d, x⟩ := a
 obtain ⟨r', k', d', x'⟩ := b
 rw [Bool.eq_iff_iff]
 simp only [Rec.mk.injEq, decide_eq_true_eq, Bool.and_eq_true]
 constructor
 ·rintro ⟨h1, h2, h3, h4⟩; exact ⟨h1, h4, h2, h3⟩
 ·rintro ⟨h1, h4, h2, h3⟩; exact ⟨h1, h2, h3, h4⟩
theorem sr_sound (a b : Rec) : Sound Tryz.prog 101 [recA a, recA b] (.v (.bool (decide (a = b)))) := by
 refine yc9 Tryz.func101 rfl (by decide +kernel) (by simp [Tryz.f101]) rfl rfl (rs := [.tmp 4]) rfl ?_
 rw [show Tryz.f101.ntmps = 31 from rfl]
 rw [dec_and4]
 obtain ⟨aR, ak, ad, ax⟩ := a
 obtain ⟨bR, bk, bd, bx⟩ := b
 simp only
 refine yr9 [2, 3] (by simp; rfl) ?_
 cases h1 : (aR == bR) with
 | false =>
  have h1' : ¬ aR = bR := by simpa using h1
  refine W_rK [4] ?_
  refine yq9 6 (by simp [h1, h1']; rfl) rfl ?_
  refine yq9 7 (by simp; rfl) rfl ?_
  refine yq9 7 (by simp; rfl) rfl ?_
  refine yw9 (by simp; rfl) ?_
  refine yk9 ?_
  repeat (first | refine ys9 ?_ | refine yd9 ?_)
  simp [retQ, h1']
 | true =>
 have h1' : aR = bR := by simpa using h1
 subst h1'
 by_cases h2 : ax = bx
 rotate_left
 ·cases ax <;> cases bx <;> simp at h2
  all_goals
   refine W_rK [4] ?_
   refine yq9 6 (by simp; rfl) rfl ?_
   refine yq9 7 (by simp; rfl) rfl ?_
   refine yq9 7 (by simp; rfl) rfl ?_
   refine yw9 (by simp; rfl) ?_
   refine yk9 ?_
   repeat (first | refine ys9 ?_ | refine yd9 ?_)
   simp [retQ]
 subst h2
 have hk := equal_sound ak bk
 have hd := equal_sound ad bd
 cases h3 : decide (ak = bk) with
 | false =>
  rw [h3] at hk
  refine W_rK [4] ?_
  refine yq9 6 (by simp; rfl) rfl ?_
  refine yq9 6 (by simp; rfl) rfl ?_
  refine yq9 5 (by simp; rfl) rfl ?_
  refine yf9 (by simp) (by first | (simp; done) | (simp; rfl)) hk (by simp; rfl) ?_
  refine yq9 6 (by simp; rfl) rfl ?_
  refine yw9 (by simp; rfl) ?_
  refine yk9 ?_
  repeat (first | refine ys9 ?_ | refine yd9 ?_)
  simp [retQ]
 | true =>
  rw [h3] at hk
  refine W_rK [4] ?_
  refine yq9 6 (by simp; rfl) rfl ?_
  refine yq9 6 (by simp; rfl) rfl ?_
  refine yq9 5 (by simp; rfl) rfl ?_
  refine yf9 (by simp) (by first | (simp; done) | (simp; rfl)) hk (by simp; rfl) ?_
  refine yq9 6 (by simp; rfl) rfl ?_
  refine yf9 (by simp) (by first | (simp; done) | (simp; rfl)) hd (by simp; rfl) ?_
  refine yw9 (by simp; rfl) ?_
  refine yk9 ?_
  repeat (first | refine ys9 ?_ | refine yd9 ?_)
  simp [retQ]
theorem eqT_sound (a b : List (Rec)) (hl : a.length ≤ 100000000) : Sound Tryz.prog 100 [.lst .any 4 (trL a), .lst .any 4 (trL b), .fn (.func 101) [] []] (.v (.bool (decide (a = b)))) := by
 refine yc9 Tryz.func100 rfl (by decide +kernel) (by simp [Tryz.f100]) (by simp [AV.rfL, AV.rf]) (by simp [AV.tlL, AV.tl]) (rs := [.tmp 6]) rfl ?_
 rw [show Tryz.f100.ntmps = 32 from rfl]
 refine yr9 [0, 1, 2] (by simp; rfl) ?_
 refine yh9 ?_
 by_cases c : a.length = b.length
 rotate_left
 ·have hne : ¬ a = b := fun e => c (by rw [e])
  refine W_cT [0, 1, 2, 14] (by simp [ne_nat, c]; rfl) rfl ?_
  refine yr9 [6] (by simp; rfl) ?_
  refine yk9 ?_
  repeat (first | refine ys9 ?_ | refine yd9 ?_)
  simp [retQ, hne]
 refine W_cF [0, 1, 2, 14] (by simp [c]; rfl) rfl ?_
 refine yj9 ?_
 refine yh9 ?_
 refine yr9 [1, 2, 15, 16, 17] (by simp; rfl) ?_
 refine yl9 ?_
 refine zg9 (fun k s => ∃ i : Nat, k = a.length - i ∧ i ≤ a.length ∧ a.take i = b.take i ∧ s = ⟨32, [(1, .lst .any 4 (trL b)), (2, .fn (.func 101) [] []), (15, .lst .any 4 (trL a)), (16, .v (.int .i64 (a.length : Nat))), (17, .v (.int .i64 (i : Nat)))], []⟩) (k := a.length) ⟨0, rfl, by omega, by simp, by simp⟩ ?_
 rintro k s ⟨i, rfl, hi, hab, rfl⟩
 by_cases hi2 : i < a.length
 ·have hj2 : i < b.length := by omega
  have hi2' : (i : Int) < a.length := by omega
  have hj2' : (i : Int) < b.length := by omega
  obtain ⟨r, hr⟩ : ∃ r, a[i]? = some r := ⟨_, List.getElem?_eq_getElem hi2⟩
  obtain ⟨q, hq⟩ : ∃ q, b[i]? = some q := ⟨_, List.getElem?_eq_getElem hj2⟩
  have hr2 : a[i]'hi2 = r := by rw [List.getElem?_eq_getElem hi2] at hr; exact Option.some.inj hr
  have hq2 : b[i]'hj2 = q := by rw [List.getElem?_eq_getElem hj2] at hq; exact Option.some.inj hq
  have wi := w64 (n := (i : Int) + 1) (by omega) (by omega)
  have hcl := sr_sound r q
  refine yr9 [1, 2, 15, 16, 17, 18] (by simp [hi2]; rfl) ?_
  refine yh9 ?_
  refine yt9 rfl (fun h => ?_) (fun h => by simp at h)
  refine yj9 ?_
  refine yh9 ?_
  refine yl9 ?_
  refine yr9 [1, 2, 15, 16, 17, 7, 8] (by simp [hi2, hi2', hr2, yg9]; rfl) ?_
  refine yr9 [1, 2, 15, 16, 17, 8, 9] (by simp [hj2, hj2', hq2, yg9]; rfl) ?_
  refine W_rK [1, 2, 15, 16, 17, 30] ?_
  refine yq9 3 (by simp; rfl) rfl ?_
  refine yf9 (by simp) (by first | (simp; done) | (simp; rfl)) hcl (by simp; rfl) ?_
  by_cases e : r = q
  ·subst e
   refine yw9 (by simp; rfl) ?_
   refine yt9 (t := false) (by simp) (fun h => by simp at h) (fun h => ?_)
   refine yj9 ?_
   refine ug9 0 (by simp) (by simp) (by simp [zj9, AV.under, AV.underL]) (by simp [yb9]) ?_
   refine zp9 [1, 2, 15, 16, 17] (by simp [wi]; rfl) ?_
   exact ⟨_, by omega, i + 1, rfl, by omega, vp9 hr hq hab, by simp⟩
  ·have hne : ¬ a = b := fun he => e (by rw [he, hq] at hr; exact (Option.some.inj hr).symm)
   refine yw9 (by simp [e]; rfl) ?_
   refine yt9 (t := true) (by simp [e]) (fun h => ?_) (fun h => by simp at h)
   refine yr9 [6] (by simp; rfl) ?_
   refine yk9 ?_
   repeat (first | refine ys9 ?_ | refine yd9 ?_)
   simp [retQ, hne]
 have hie : i = a.length := by omega
 have heq : a = b := by
  have h1 := hab
  rw [hie, List.take_length, c, List.take_length] at h1
  exact h1
 refine yr9 [18] (by simp [hie]; rfl) ?_
 refine yh9 ?_
 refine yt9 (t := false) (by simp [hie]) (fun h => by simp at h) (fun h => ?_)
 refine zd9 ?_
 refine yr9 [6] (by simp; rfl) ?_
 refine yk9 ?_
 repeat (first | refine ys9 ?_ | refine yd9 ?_)
 simp [retQ, heq]
theorem sameTrack_sound (a b : List Rec) (hl : a.length ≤ 100000000) : Sound Tryz.prog 65 [.lst .any 4 (trL a), .lst .any 4 (trL b)] (.v (.bool (decide (a = b)))) := by
 refine yc9 Tryz.func65 rfl (by decide +kernel) (by simp [Tryz.f65]) (by simp [AV.rfL, AV.rf]) (by simp [AV.tlL, AV.tl]) (rs := [.tmp 4]) rfl ?_
 rw [show Tryz.f65.ntmps = 8 from rfl]
 refine yr9 [0, 1] (by simp; rfl) ?_
 refine W_rK [4] ?_
 refine yq9 2 (by simp; rfl) rfl ?_
 refine yf9 (by simp) (by first | (simp; done) | (simp; rfl)) (eqT_sound a b hl) (by simp; rfl) ?_
 refine yw9 (by simp; rfl) ?_
 refine yk9 ?_
 repeat (first | refine ys9 ?_ | refine yd9 ?_)
 simp [retQ]
theorem eqTs_sound (a b : List (List Rec)) (hl : a.length ≤ 100000000) (ht : ∀ t ∈ a, t.length ≤ 100000000) : Sound Tryz.prog 64 [.lst .any 1 (arL a), .lst .any 1 (arL b), .fn (.func 65) [] []] (.v (.bool (decide (a = b)))) := by
 refine yc9 Tryz.func64 rfl (by decide +kernel) (by simp [Tryz.f64]) (by simp [AV.rfL, AV.rf]) (by simp [AV.tlL, AV.tl]) (rs := [.tmp 6]) rfl ?_
 rw [show Tryz.f64.ntmps = 32 from rfl]
 refine yr9 [0, 1, 2] (by simp; rfl) ?_
 refine yh9 ?_
 by_cases c : a.length = b.length
 rotate_left
 ·have hne : ¬ a = b := fun e => c (by rw [e])
  refine W_cT [0, 1, 2, 14] (by simp [ne_nat, c]; rfl) rfl ?_
  refine yr9 [6] (by simp; rfl) ?_
  refine yk9 ?_
  repeat (first | refine ys9 ?_ | refine yd9 ?_)
  simp [retQ, hne]
 refine W_cF [0, 1, 2, 14] (by simp [c]; rfl) rfl ?_
 refine yj9 ?_
 refine yh9 ?_
 refine yr9 [1, 2, 15, 16, 17] (by simp; rfl) ?_
 refine yl9 ?_
 refine zg9 (fun k s => ∃ i : Nat, k = a.length - i ∧ i ≤ a.length ∧ a.take i = b.take i ∧ s = ⟨32, [(1, .lst .any 1 (arL b)), (2, .fn (.func 65) [] []), (15, .lst .any 1 (arL a)), (16, .v (.int .i64 (a.length : Nat))), (17, .v (.int .i64 (i : Nat)))], []⟩) (k := a.length) ⟨0, rfl, by omega, by simp, by simp⟩ ?_
 rintro k s ⟨i, rfl, hi, hab, rfl⟩
 by_cases hi2 : i < a.length
 ·have hj2 : i < b.length := by omega
  have hi2' : (i : Int) < a.length := by omega
  have hj2' : (i : Int) < b.length := by omega
  obtain ⟨r, hr⟩ : ∃ r, a[i]? = some r := ⟨_, List.getElem?_eq_getElem hi2⟩
  obtain ⟨q, hq⟩ : ∃ q, b[i]? = some q := ⟨_, List.getElem?_eq_getElem hj2⟩
  have hr2 : a[i]'hi2 = r := by rw [List.getElem?_eq_getElem hi2] at hr; exact Option.some.inj hr
  have hq2 : b[i]'hj2 = q := by rw [List.getElem?_eq_getElem hj2] at hq; exact Option.some.inj hq
  have wi := w64 (n := (i : Int) + 1) (by omega) (by omega)
  have hcl := sameTrack_sound r q (ht r (List.mem_of_getElem? hr))
  refine yr9 [1, 2, 15, 16, 17, 18] (by simp [hi2]; rfl) ?_
  refine yh9 ?_
  refine yt9 rfl (fun h => ?_) (fun h => by simp at h)
  refine yj9 ?_
  refine yh9 ?_
  refine yl9 ?_
  refine yr9 [1, 2, 15, 16, 17, 7, 8] (by simp [hi2, hi2', hr2]; rfl) ?_
  refine yr9 [1, 2, 15, 16, 17, 8, 9] (by simp [hj2, hj2', hq2]; rfl) ?_
  refine W_rK [1, 2, 15, 16, 17, 30] ?_
  refine yq9 3 (by simp; rfl) rfl ?_
  refine yf9 (by simp) (by first | (simp; done) | (simp; rfl)) hcl (by simp; rfl) ?_
  by_cases e : r = q
  ·subst e
   refine yw9 (by simp; rfl) ?_
   refine yt9 (t := false) (by simp) (fun h => by simp at h) (fun h => ?_)
   refine yj9 ?_
   refine zp9 [1, 2, 15, 16, 17] (by simp [wi]; rfl) ?_
   exact ⟨_, by omega, i + 1, rfl, by omega, vp9 hr hq hab, by simp⟩
  ·have hne : ¬ a = b := fun he => e (by rw [he, hq] at hr; exact (Option.some.inj hr).symm)
   refine yw9 (by simp [e]; rfl) ?_
   refine yt9 (t := true) (by simp [e]) (fun h => ?_) (fun h => by simp at h)
   refine yr9 [6] (by simp; rfl) ?_
   refine yk9 ?_
   repeat (first | refine ys9 ?_ | refine yd9 ?_)
   simp [retQ, hne]
 have hie : i = a.length := by omega
 have heq : a = b := by
  have h1 := hab
  rw [hie, List.take_length, c, List.take_length] at h1
  exact h1
 refine yr9 [18] (by simp [hie]; rfl) ?_
 refine yh9 ?_
 refine yt9 (t := false) (by simp [hie]) (fun h => by simp at h) (fun h => ?_)
 refine zd9 ?_
 refine yr9 [6] (by simp; rfl) ?_
 refine yk9 ?_
 repeat (first | refine ys9 ?_ | refine yd9 ?_)
 simp [retQ, heq]
theorem k8_sound (r : Rec) : Sound Tryz.prog 61 [recA r] (.v (.bool (decide (r.key.length = 8)))) := by
 refine yc9 Tryz.func61 rfl (by decide +kernel) (by simp [Tryz.f61]) rfl rfl (rs := [.tmp 2]) rfl ?_
 rw [show Tryz.f61.ntmps = 7 from rfl]
 refine yr9 [1] (by simp; rfl) ?_
 refine yr9 [2] (by simp; rfl) ?_
 refine yk9 ?_
 repeat (first | refine ys9 ?_ | refine yd9 ?_)
 simp [retQ]
 rw [Bool.eq_iff_iff]
 simp
 omega
theorem rn_sound (r : Rec) (n : Int) : Sound Tryz.prog 130 [recA r, .ro (.v (.int .i64 n))] (.v (.bool (r.R == n))) := by
 refine yc9 Tryz.func130 rfl (by decide +kernel) (by simp [Tryz.f130]) rfl rfl (rs := [.tmp 3]) rfl ?_
 rw [show Tryz.f130.ntmps = 8 from rfl]
 refine yr9 [1, 2] (by simp; rfl) ?_
 refine yr9 [3] (by simp; rfl) ?_
 refine yk9 ?_
 repeat (first | refine ys9 ?_ | refine yd9 ?_)
 simp [retQ]
theorem idxK_sound (t : List Rec) (hl : t.length ≤ 100000000) : Sound Tryz.prog 98 [.lst .any 4 (trL t), .fn (.func 61) [] []] (.v (.int .i64 (match t.findIdx? (fun r : Rec => decide (r.key.length = 8)) with | some i => ((i : Nat) : Int) | none => -1))) := by
 refine yc9 Tryz.func98 rfl (by decide +kernel) (by simp [Tryz.f98]) (by simp [AV.rfL, AV.rf]) (by simp [AV.tlL, AV.tl]) (rs := [.tmp 4]) rfl ?_
 rw [show Tryz.f98.ntmps = 19 from rfl]
 refine yr9 [0, 1] (by simp; rfl) ?_
 refine yh9 ?_
 refine yr9 [0, 1, 7, 8] (by simp; rfl) ?_
 refine yl9 ?_
 refine zg9 (fun k s => ∃ i : Nat, k = t.length - i ∧ i ≤ t.length ∧ (∀ r ∈ t.take i, (fun r : Rec => decide (r.key.length = 8)) r = false) ∧ s = ⟨19, [(0, .lst .any 4 (trL t)), (1, .fn (.func 61) [] []), (7, .v (.int .i64 (t.length : Nat))), (8, .v (.int .i64 (i : Nat)))], []⟩) (k := t.length) ⟨0, rfl, by omega, by simp, by simp⟩ ?_
 rintro k s ⟨i, rfl, hi, hab, rfl⟩
 by_cases c : i < t.length
 ·have ci : (i : Int) < t.length := by omega
  obtain ⟨r, hr⟩ : ∃ r, t[i]? = some r := ⟨_, List.getElem?_eq_getElem c⟩
  have hr2 : t[i]'c = r := by rw [List.getElem?_eq_getElem c] at hr; exact Option.some.inj hr
  have wi := w64 (n := (i : Int) + 1) (by omega) (by omega)
  have hcl := k8_sound r
  refine yr9 [0, 1, 7, 8, 9] (by simp [c, ci]; rfl) ?_
  refine yh9 ?_
  refine yt9 (t := true) (by simp [c, ci]) (fun h => ?_) (fun h => by simp at h)
  refine yj9 ?_
  refine yh9 ?_
  refine yl9 ?_
  refine yr9 [0, 1, 7, 8, 5] (by simp; rfl) ?_
  refine W_rK [0, 1, 7, 8, 5, 16] ?_
  refine yq9 5 (by simp [c, ci, hr2]; rfl) rfl ?_
  refine yf9 (by simp) (by first | (simp; done) | (simp; rfl)) hcl (by simp; rfl) ?_
  refine yw9 (by simp; rfl) ?_
  cases hb : (fun r : Rec => decide (r.key.length = 8)) r with
  | true =>
   refine yt9 (t := true) (by simp [hb]) (fun h => ?_) (fun h => by simp at h)
   refine yr9 [4] (by simp; rfl) ?_
   refine yk9 ?_
   repeat (first | refine ys9 ?_ | refine yd9 ?_)
   have hfi : t.findIdx? (fun r : Rec => decide (r.key.length = 8)) = some i := by
    rw [List.findIdx?_eq_some_iff_getElem]
    refine ⟨c, by rw [hr2]; exact hb, fun j hj => ?_⟩
    have h9 := hab t[j] (List.mem_take_iff_getElem.2 ⟨j, by omega, rfl⟩)
    intro h10
    have h11 := h9.symm.trans h10
    cases h11
   rw [hfi]
   simp [retQ]
  | false =>
   refine yt9 (t := false) (by simp [hb]) (fun h => by simp at h) (fun h => ?_)
   refine yj9 ?_
   refine zp9 [0, 1, 7, 8] (by simp [wi]; rfl) ?_
   refine ⟨_, by omega, i + 1, rfl, by omega, fun q hq => ?_, by simp⟩
   rw [List.take_add_one, hr] at hq
   rcases List.mem_append.1 hq with hq | hq
   ·exact hab q hq
   ·rw [List.mem_singleton.1 hq]; exact hb
 have hie : i = t.length := by omega
 refine yr9 [9] (by simp [hie]; rfl) ?_
 refine yh9 ?_
 refine yt9 (t := false) (by simp [hie]) (fun h => by simp at h) (fun h => ?_)
 refine zd9 ?_
 refine yr9 [4] (by simp; rfl) ?_
 refine yk9 ?_
 repeat (first | refine ys9 ?_ | refine yd9 ?_)
 have hfi : t.findIdx? (fun r : Rec => decide (r.key.length = 8)) = none := by
  rw [List.findIdx?_eq_none_iff]
  intro x hx
  rw [hie, List.take_length] at hab
  exact hab x hx
 rw [hfi]
 simp [retQ]
theorem idxR_sound (t : List Rec) (n : Int) (hl : t.length ≤ 100000000) : Sound Tryz.prog 98 [.lst .any 4 (trL t), .fn (.func 130) [] [.ro (.v (.int .i64 n))]] (.v (.int .i64 (match t.findIdx? (fun r : Rec => r.R == n) with | some i => ((i : Nat) : Int) | none => -1))) := by
 refine yc9 Tryz.func98 rfl (by decide +kernel) (by simp [Tryz.f98]) (by simp [AV.rfL, AV.rf]) (by simp [AV.tlL, AV.tl]) (rs := [.tmp 4]) rfl ?_
 rw [show Tryz.f98.ntmps = 19 from rfl]
 refine yr9 [0, 1] (by simp; rfl) ?_
 refine yh9 ?_
 refine yr9 [0, 1, 7, 8] (by simp; rfl) ?_
 refine yl9 ?_
 refine zg9 (fun k s => ∃ i : Nat, k = t.length - i ∧ i ≤ t.length ∧ (∀ r ∈ t.take i, (fun r : Rec => r.R == n) r = false) ∧ s = ⟨19, [(0, .lst .any 4 (trL t)), (1, .fn (.func 130) [] [.ro (.v (.int .i64 n))]), (7, .v (.int .i64 (t.length : Nat))), (8, .v (.int .i64 (i : Nat)))], []⟩) (k := t.length) ⟨0, rfl, by omega, by simp, by simp⟩ ?_
 rintro k s ⟨i, rfl, hi, hab, rfl⟩
 by_cases c : i < t.length
 ·have ci : (i : Int) < t.length := by omega
  obtain ⟨r, hr⟩ : ∃ r, t[i]? = some r := ⟨_, List.getElem?_eq_getElem c⟩
  have hr2 : t[i]'c = r := by rw [List.getElem?_eq_getElem c] at hr; exact Option.some.inj hr
  have wi := w64 (n := (i : Int) + 1) (by omega) (by omega)
  have hcl := rn_sound r n
  refine yr9 [0, 1, 7, 8, 9] (by simp [c, ci]; rfl) ?_
  refine yh9 ?_
  refine yt9 (t := true) (by simp [c, ci]) (fun h => ?_) (fun h => by simp at h)
  refine yj9 ?_
  refine yh9 ?_
  refine yl9 ?_
  refine yr9 [0, 1, 7, 8, 5] (by simp; rfl) ?_
  refine W_rK [0, 1, 7, 8, 5, 16] ?_
  refine yq9 5 (by simp [c, ci, hr2]; rfl) rfl ?_
  refine yf9 (by simp) (by first | (simp; done) | (simp; rfl)) hcl (by simp; rfl) ?_
  refine yw9 (by simp; rfl) ?_
  cases hb : (fun r : Rec => r.R == n) r with
  | true =>
   refine yt9 (t := true) (by simp [hb]) (fun h => ?_) (fun h => by simp at h)
   refine yr9 [4] (by simp; rfl) ?_
   refine yk9 ?_
   repeat (first | refine ys9 ?_ | refine yd9 ?_)
   have hfi : t.findIdx? (fun r : Rec => r.R == n) = some i := by
    rw [List.findIdx?_eq_some_iff_getElem]
    refine ⟨c, by rw [hr2]; exact hb, fun j hj => ?_⟩
    have h9 := hab t[j] (List.mem_take_iff_getElem.2 ⟨j, by omega, rfl⟩)
    intro h10
    have h11 := h9.symm.trans h10
    cases h11
   rw [hfi]
   simp [retQ]
  | false =>
   refine yt9 (t := false) (by simp [hb]) (fun h => by simp at h) (fun h => ?_)
   refine yj9 ?_
   refine zp9 [0, 1, 7, 8] (by simp [wi]; rfl) ?_
   refine ⟨_, by omega, i + 1, rfl, by omega, fun q hq => ?_, by simp⟩
   rw [List.take_add_one, hr] at hq
   rcases List.mem_append.1 hq with hq | hq
   ·exact hab q hq
   ·rw [List.mem_singleton.1 hq]; exact hb
 have hie : i = t.length := by omega
 refine yr9 [9] (by simp [hie]; rfl) ?_
 refine yh9 ?_
 refine yt9 (t := false) (by simp [hie]) (fun h => by simp at h) (fun h => ?_)
 refine zd9 ?_
 refine yr9 [4] (by simp; rfl) ?_
 refine yk9 ?_
 repeat (first | refine ys9 ?_ | refine yd9 ?_)
 have hfi : t.findIdx? (fun r : Rec => r.R == n) = none := by
  rw [List.findIdx?_eq_none_iff]
  intro x hx
  rw [hie, List.take_length] at hab
  exact hab x hx
 rw [hfi]
 simp [retQ]
theorem keyed_sound (t : List Rec) (hl : t.length ≤ 100000000) : Sound Tryz.prog 60 [.lst .any 4 (trL t), .fn (.func 61) [] []] (.v (.bool (vm9 t))) := by
 refine yc9 Tryz.func60 rfl (by decide +kernel) (by simp [Tryz.f60]) (by simp [AV.rfL, AV.rf]) (by simp [AV.tlL, AV.tl]) (rs := [.tmp 4]) rfl ?_
 rw [show Tryz.f60.ntmps = 9 from rfl]
 have hx := idxK_sound t hl
 refine yr9 [0, 1] (by simp; rfl) ?_
 refine W_rK [4] ?_
 refine yq9 2 (by simp; rfl) rfl ?_
 refine yf9 (by simp) (by first | (simp; done) | (simp; rfl)) hx (by simp; rfl) ?_
 refine yw9 (by simp; rfl) ?_
 refine yk9 ?_
 repeat (first | refine ys9 ?_ | refine yd9 ?_)
 have hk : vm9 t = (t.findIdx? fun r => decide (r.key.length = 8)).isSome := by
  unfold vm9
  cases h : t.findIdx? fun r => decide (r.key.length = 8) with
  | none =>
   rw [List.findIdx?_eq_none_iff] at h
   rw [Option.isSome_none, List.any_eq_false]
   intro x hx
   rw [h x hx]
   decide
  | some i =>
   rw [List.findIdx?_eq_some_iff_getElem] at h
   obtain ⟨h1, h2, _⟩ := h
   rw [Option.isSome_some, List.any_eq_true]
   exact ⟨t[i], List.getElem_mem h1, h2⟩
 rw [hk]
 cases t.findIdx? fun r => decide (r.key.length = 8) with
 | none => simp [retQ]
 | some i => simp [retQ]
theorem tfind_sound (t : List Rec) (n : Int) (hl : t.length ≤ 100000000) : Sound Tryz.prog 108 [.lst .any 4 (trL t), .v (.int .i64 n)] (.tup [.v (.int .i64 (((qv9 t n).getD 0 : Nat) : Int)), .v (.bool (qv9 t n).isSome)]) := by
 refine yc9 Tryz.func108 rfl (by decide +kernel) (by simp [Tryz.f108]) (by simp [AV.rfL, AV.rf]) (by simp [AV.tlL, AV.tl]) (rs := [.tmp 4, .tmp 5]) rfl ?_
 rw [show Tryz.f108.ntmps = 14 from rfl]
 have hx := idxR_sound t n hl
 rw [show (t.findIdx? fun r : Rec => r.R == n) = qv9 t n from rfl] at hx
 obtain ⟨X, hX⟩ : ∃ X : Int, (match qv9 t n with | some i => ((i : Nat) : Int) | none => -1) = X := ⟨_, rfl⟩
 rw [hX] at hx
 have h1 : (if X < 0 then (0 : Int) else X) = (((qv9 t n).getD 0 : Nat) : Int) := by
  rw [← hX]
  cases qv9 t n with
  | none => rfl
  | some i => simp only [Option.getD_some]; split <;> omega
 have h2 : decide (0 ≤ X) = (qv9 t n).isSome := by
  rw [← hX]
  cases qv9 t n with
  | none => rfl
  | some i => simp
 refine yr9 [0, 3] (by simp; rfl) ?_
 refine W_roB 3 (tk := 1) (x := .v (.int .i64 n)) (o := .tip 3 1) (s0 := 1) (h' := [.froz 3 [.v (.int .i64 n)]]) rfl (by decide) (by simp [xj9, chunk]) rfl ?_
 refine ug9 0 (by simp) (by simp) (by simp [zj9, putF, AV.under, AV.underL]) (by simp [yb9]) ?_
 refine (show Wt true 0 Tryz.prog _ _ ⟨14, [(0, .lst .any 4 (trL t)), (3, .ro (.v (.int .i64 n)))], []⟩ from ?_)
 refine W_rK [6] ?_
 refine yq9 2 (by simp; rfl) rfl ?_
 refine yf9 (by simp) (by first | (simp; done) | (simp; rfl)) hx (by simp; rfl) ?_
 refine yw9 (by simp; rfl) ?_
 refine yr9 [4, 5] (by simp [h1, h2]; rfl) ?_
 refine yk9 ?_
 repeat (first | refine ys9 ?_ | refine yd9 ?_)
 simp [retQ, h2]
end Go.AM
namespace Go.AM
open Go.RowKit Go.Proofs
set_option linter.unusedSimpArgs false
set_option linter.unusedVariables false
set_option maxHeartbeats 8000000
set_option maxRecDepth 20000
def mg : List Rec → List (List UInt8) → Nat × List (List UInt8)
 | [], o => (0, o)
 | r :: l, o => if r.bad = true ∨ r.key ≠ [] then (2, o) else if r.data = [] then (1, o) else mg l (o ++ [r.data])
theorem mg_seq : ∀ (l : List Rec) (o : List (List UInt8)), (seqL l).map (o ++ ·) = if (mg l o).1 = 1 then some (mg l o).2 else none
 | [], o => by simp [seqL, mg]
 | r :: l, o => by
  rw [seqL, mg]
  by_cases h1 : r.bad = true ∨ r.key ≠ []
  ·rw [if_pos h1, if_pos h1]; simp
  ·rw [if_neg h1, if_neg h1]
   by_cases h2 : r.data = []
   ·rw [if_pos h2, if_pos h2]; simp
   ·rw [if_neg h2, if_neg h2, ← mg_seq l (o ++ [r.data])]
    cases seqL l <;> simp
def restE (t : List (List Rec)) (p : Nat) (n : Int) : List Rec := if p < t.length then (match qv9 (t.getD p []) n with | none => [] | some k => fromE t p k) else []
theorem seqE_rest (t : List (List Rec)) (p : Nat) (n : Int) : seqE t p n = if (mg (restE t p n) []).1 = 1 then some (mg (restE t p n) []).2 else none := by
 have h := mg_seq (restE t p n) []
 have e : (seqL (restE t p n)).map (([] : List (List UInt8)) ++ ·) = seqL (restE t p n) := by cases seqL (restE t p n) <;> simp
 rw [e] at h
 rw [← h]
 unfold seqE restE
 split
 ·split <;> simp_all [seqL]
 ·rfl
def memM (d : Dcb) (t : List (List Rec)) (p n : Nat) : List (List UInt8) × Int := match seqE t p n with | some bs => unbM d bs | none => ([], 5)
theorem rest_len (t : List (List Rec)) (p : Nat) (n : Int) : (restE t p n).length ≤ t.flatten.length := by
 unfold restE
 split
 ·rename_i hp
  split
  ·simp
  ·rename_i k hk
   have hk2 := findT_lt hk
   rw [from_flat hp (by omega), List.length_drop]
   omega
 ·simp
theorem recs24_callW (t : List (List Rec)) (p n : Nat) (h : List AObj) (hh : yb9 (h.length + 2) h = true) : xm9 Tryz.prog 70 [.lst .any 1 (arL t), .agg [.v (.int .i64 (p : Nat)), .v (.int .i64 (n : Nat))]] h fun r h' => r = .fn (.func 107) [] [.loc (h.length + 1) 0, .loc h.length 0] ∧ h' = h ++ [.cells 24 [.lst .any 1 (arL t)], .cells 55 [.v (.int .i64 (p : Nat)), .v (.int .i64 (n : Nat))]] := by
 refine zf9 Tryz.func70 rfl (by decide +kernel) (by simp [Tryz.f70]) (rs := [.tmp 4]) rfl ?_
 rw [show Tryz.f70.ntmps = 6 from rfl]
 refine yr9 [2, 3] (by simp; rfl) ?_
 refine yr9 [4] (by simp; rfl) ?_
 refine yk9 ?_
 repeat (first | refine ys9 ?_ | refine yd9 ?_)
 refine ⟨.inr rfl, .fn (.func 107) [] [.loc (h.length + 1) 0, .loc h.length 0], .fn (.func 107) [] [.loc (h.length + 1) 0, .loc h.length 0], h ++ [.cells 24 [.lst .any 1 (arL t)], .cells 55 [.v (.int .i64 (p : Nat)), .v (.int .i64 (n : Nat))]], h.length + 2, by simp, .inl ⟨rfl, by simp⟩, by omega, by simp, by simp [AV.under, AV.underL], ?_, rfl, ?_⟩
 ·rw [List.take_of_length_le (by simp), zn9, hh]
  simp [yb9, zj9, AObj.under, AV.under, AV.underL]
 ·rw [List.take_of_length_le (by simp)]
def outM (x : AV) (O : List (List UInt8)) : Prop := (O = [] ∧ x = .lst .nil 1 []) ∨ x = .lst (.tip 90 71) 1 (bbL O)
theorem outM_under {x : AV} {O : List (List UInt8)} (h : outM x O) (m : Nat) : x.under m = true := by
 rcases h with ⟨_, rfl⟩ | rfl <;> simp [AV.under, AV.underL]
noncomputable abbrev mbL (s : LSt) : AObj := .loop 36 [(3, .loc 0 0), (6, .loc 2 0), (7, .loc 3 0), (8, .loc 4 0), (12, .fn (.func 107) [] [.loc 6 0, .loc 5 0])] [13] (rfA Tryz.f32) (rfB Tryz.f32) s
abbrev mbH (d : Dcb) (t : List (List Rec)) (p n : Nat) (rA : AV) (rE : Int) (x : AV) (X : List AObj) : List AObj :=
 [.cells 23 (dcbC d), .cells 55 [.v (.int .i64 (p : Nat)), .v (.int .i64 (n : Nat))], .cells 25 [rA], .cells 30 [.v (.int .i64 rE)], .cells 25 [x], .cells 24 [.lst .any 1 (arL t)], .cells 55 [.v (.int .i64 (p : Nat)), .v (.int .i64 (n : Nat))]] ++ X
end Go.AM
namespace Go.AM
open Go.RowKit Go.Proofs
set_option linter.unusedSimpArgs false
set_option linter.unusedVariables false
set_option maxHeartbeats 8000000
set_option maxRecDepth 20000
def mbQ (d : Dcb) (t : List (List Rec)) (p n : Nat) (h' : List AObj) : Prop :=
 ∃ o x st rA rE, outM x o ∧ mg (restE t p n) [] = (st, o) ∧ st < 3 ∧ (st = 1 → rA = .lst (.tip 90 57) 1 (bbL (unbM d o).1) ∧ rE = (unbM d o).2) ∧ (st ≠ 1 → rA = .lst .nil 1 [] ∧ rE = 0) ∧
  h' = mbH d t p n rA rE x [mbL (if st = 0 then .ready else if st = 1 then .done .ret else .done (.exit 0))]
theorem mb_in (d : Dcb) (t : List (List Rec)) (p n : Nat) (hl : t.length ≤ 100000000) (ht : ∀ l ∈ t, l.length ≤ 100000000) (hf : t.flatten.length ≤ 1800000) (hd : ∀ l ∈ t, ∀ r ∈ l, r.data.length ≤ 1000000000) (hp : p ≤ 1000000000) :
  xm9 Tryz.prog 107 [.yld 7, .loc 6 0, .loc 5 0] (mbH d t p n (.lst .nil 1 []) 0 (.lst .nil 1 []) [mbL .ready]) fun _ h' => mbQ d t p n h' := by
 refine zf9 Tryz.func107 rfl (by decide +kernel) (by simp [Tryz.f107]) (rs := []) rfl ?_
 rw [show Tryz.f107.ntmps = 52 from rfl]
 have done : ∀ (e : Exit) (fr : List (Nat × AV)) (X : List AObj) (o : List (List UInt8)) (x : AV) (st : Nat) (rA : AV) (rE : Int), (e = .normal ∨ e = .ret) → outM x o → mg (restE t p n) [] = (st, o) → st < 3 → (st = 1 → rA = .lst (.tip 90 57) 1 (bbL (unbM d o).1) ∧ rE = (unbM d o).2) → (st ≠ 1 → rA = .lst .nil 1 [] ∧ rE = 0) →
   retW Tryz.prog [] 8 (fun _ h' => mbQ d t p n h') e ⟨52, fr, mbH d t p n rA rE x ([mbL (if st = 0 then .ready else if st = 1 then .done .ret else .done (.exit 0))] ++ X)⟩ := by
  intro e fr X o x st rA rE he hx hm h3 h1 h2
  have hrA : rA.under 8 = true := by
   by_cases hst : st = 1
   ·rw [(h1 hst).1]; simp [AV.under, AV.underL]
   ·rw [(h2 hst).1]; simp [AV.under, AV.underL]
  refine ⟨he, .tup [], .tup [], _, 8, rfl, .inl ⟨rfl, rfl⟩, by simp, by simp, rfl, ?_, ?_⟩
  ·simp [yb9, zj9, AObj.under, AV.under, AV.underL, outM_under hx, hrA, dcbC]
  ·exact ⟨o, x, st, rA, rE, hx, hm, h3, h1, h2, by simp⟩
 refine yh9 ?_
 by_cases cp : p < t.length
 ·have cpi : ¬ (t.length : Int) ≤ p := by omega
  have cpn : ¬ t.length ≤ p := by omega
  have cpi2 : (p : Int) < t.length := by omega
  obtain ⟨l, hlp⟩ : ∃ l, t[p]? = some l := ⟨_, List.getElem?_eq_getElem cp⟩
  have hlp2 : t[p]'cp = l := (List.getElem?_eq_some_iff.1 hlp).2
  have hgd : t.getD p [] = l := by rw [List.getD_eq_getElem?_getD, hlp]; rfl
  have hfind := tfind_sound l (n : Int) (ht l (List.mem_of_getElem? hlp))
  have hR : restE t p n = match qv9 l n with | none => [] | some k => fromE t p k := by unfold restE; rw [if_pos cp, hgd]; try (cases qv9 l (n : Int) <;> rfl)
  refine yr9 [0, 1, 2, 13] (by simp [mbH, cpi, cpn]; rfl) ?_
  refine yt9 (t := false) (by simp [cpi, cpn]) (fun h => by simp at h) (fun h => ?_)
  refine ym9 [0, 1, 2] ?_
  refine yj9 ?_
  repeat (first | refine on_norm ?_ | refine in_norm ?_)
  refine wc9 [0, 1, 2, 4, 5] mx (by decide +kernel) ?_
  refine yp9 4 (by simp [mbH, xr9, cp, cpi2]; rfl) rfl ?_
  refine yp9 3 (by simp [cp, cpi2, hlp2]; rfl) rfl ?_
  refine yv9 (by simp) (by first | (simp; done) | (simp; rfl)) hfind (by simp; rfl) ?_
  refine yn9 (by simp; rfl) ?_
  refine yr9 [0, 2, 4, 5, 6] (by simp [mbH]; rfl) ?_
  refine yl9 ?_
  obtain ⟨R, hRe⟩ : ∃ R, restE t p n = R := ⟨_, rfl⟩
  have hRl := rest_len t p n
  rw [hRe] at done hR hRl
  refine zg9 (fun q s => ∃ (k i : Nat) (o : List (List UInt8)) (x : AV), q = t.length - k ∧ k ≤ t.length ∧ (k < t.length → i ≤ (t.getD k []).length) ∧ mg R [] = mg (if (qv9 l n).isSome then (t.getD k []).drop i ++ (t.drop (k + 1)).flatten else []) o ∧ outM x o ∧ (∀ b ∈ o, b.length ≤ 1000000000) ∧
   o.length + (if (qv9 l n).isSome then (t.getD k []).drop i ++ (t.drop (k + 1)).flatten else []).length ≤ 1800000 ∧
   s = ⟨52, [(0, .yld 7), (2, .loc 5 0), (4, .v (.int .i64 (i : Nat))), (5, .v (.bool (qv9 l n).isSome)), (6, .v (.int .i64 (k : Nat)))], mbH d t p n (.lst .nil 1 []) 0 x [mbL .ready]⟩) (k := t.length - p) ⟨p, (qv9 l n).getD 0, [], _, rfl, by omega, ?_, ?_, .inl ⟨rfl, rfl⟩, by simp, ?_, by simp [mbH]⟩ ?_
  ·intro _
   cases hfd : qv9 l n with
   | none => simp
   | some k => rw [hgd]; have := findT_lt hfd; simp; omega
  ·cases hfd : qv9 l n with
   | none => rw [hfd] at hR; rw [hR]; simp
   | some k => rw [hfd] at hR; rw [hR]; simp [fromE]
  ·cases hfd : qv9 l n with
   | none => simp
   | some k =>
    rw [hfd] at hR
    have : R.length = ((t.getD p []).drop k ++ (t.drop (p + 1)).flatten).length := by rw [hR]; rfl
    simp only [Option.isSome_some, if_true, Option.getD_some, List.length_nil]
    omega
  rintro q s ⟨k, i, o, x, rfl, hk, hik, hmg, hx, hob, hol, rfl⟩
  have wk := w64 (n := (k : Int) + 1) (by omega) (by omega)
  refine yh9 ?_
  cases hfd : (qv9 l n).isSome with
  | false =>
   rw [hfd] at hmg
   refine yr9 [0, 2, 4, 5, 6, 33] (by simp [mbH]; rfl) ?_
   refine yt9 (t := false) (by simp) (fun h => by simp at h) (fun h => ?_)
   refine zd9 ?_
   exact done _ _ [] o x 0 _ _ (.inl rfl) hx (by rw [hmg]; rfl) (by omega) (by simp) (by simp)
  | true =>
  rw [hfd] at hmg hol
  simp only [if_true] at hmg hol
  by_cases ck : k < t.length
  ·have cki : (k : Int) < t.length := by omega
   obtain ⟨m, hm⟩ : ∃ m, t[k]? = some m := ⟨_, List.getElem?_eq_getElem ck⟩
   have hm2 : t[k]'ck = m := (List.getElem?_eq_some_iff.1 hm).2
   have hgm : t.getD k [] = m := by rw [List.getD_eq_getElem?_getD, hm]; rfl
   have hmm := List.mem_of_getElem? hm
   have hml := ht m hmm
   rw [hgm] at hmg hol
   have hik2 := hik ck
   rw [hgm] at hik2
   have hik3 : (i : Int) ≤ m.length := by omega
   refine yr9 [0, 2, 4, 5, 6, 33] (by simp [mbH, ck, cki]; rfl) ?_
   refine yt9 (t := true) (by simp [ck, cki]) (fun h => ?_) (fun h => by simp at h)
   refine ym9 [0, 2, 4, 5, 6] ?_
   refine yj9 ?_
   repeat (first | refine on_norm ?_ | refine in_norm ?_)
   refine yh9 ?_
   refine yl9 ?_
   refine yh9 ?_
   have hdl : (trL m).drop i = trL (m.drop i) := (trL_drop m i).symm
   obtain ⟨L, hL⟩ : ∃ L, m.drop i = L := ⟨_, rfl⟩
   have hLl : L.length = m.length - i := by rw [← hL, List.length_drop]
   have hLm : ∀ r ∈ L, r ∈ m := fun r hr => by rw [← hL] at hr; exact List.mem_of_mem_drop hr
   rw [hL] at hdl hmg hol
   refine yr9 [0, 2, 5, 6, 41, 42, 43] (by simp [mbH, xr9, ck, cki, hm2, hik2, hik3, hdl]; rfl) ?_
   refine yl9 ?_
   obtain ⟨rest, hrest⟩ : ∃ rest, (t.drop (k + 1)).flatten = rest := ⟨_, rfl⟩
   rw [hrest] at hmg hol
   refine zg9 (fun q s => ∃ (j : Nat) (o : List (List UInt8)) (x : AV), q = L.length - j ∧ j ≤ L.length ∧ mg R [] = mg (L.drop j ++ rest) o ∧ outM x o ∧ (∀ b ∈ o, b.length ≤ 1000000000) ∧ o.length + (L.drop j ++ rest).length ≤ 1800000 ∧
    s = ⟨52, [(0, .yld 7), (2, .loc 5 0), (5, .v (.bool true)), (6, .v (.int .i64 (k : Nat))), (41, .lst .any 4 (trL L)), (42, .v (.int .i64 (L.length : Nat))), (43, .v (.int .i64 (j : Nat)))], mbH d t p n (.lst .nil 1 []) 0 x [mbL .ready]⟩) (k := L.length) ⟨0, o, x, rfl, by omega, by rw [List.drop_zero]; exact hmg, hx, hob, by rw [List.drop_zero]; exact hol, by simp [mbH]⟩ ?_
   rintro q s ⟨j, o', x', rfl, hj, hmg', hx', hob', hol', rfl⟩
   by_cases cj : j < L.length
   ·have cji : (j : Int) < L.length := by omega
    obtain ⟨r, hr⟩ : ∃ r, L[j]? = some r := ⟨_, List.getElem?_eq_getElem cj⟩
    have hr2 : L[j]'cj = r := (List.getElem?_eq_some_iff.1 hr).2
    have hrd := hd m hmm r (hLm r (List.mem_of_getElem? hr))
    have wj := w64 (n := (j : Int) + 1) (by omega) (by omega)
    have hdj : L.drop j = r :: L.drop (j + 1) := by rw [List.drop_eq_getElem_cons cj, hr2]
    rw [hdj, List.cons_append, mg] at hmg'
    rw [hdj, List.cons_append, List.length_cons] at hol'
    refine yr9 [0, 2, 5, 6, 41, 42, 43, 44] (by simp [cj, cji]; rfl) ?_
    refine yh9 ?_
    refine yt9 (t := true) (by simp [cj, cji]) (fun h => ?_) (fun h => by simp at h)
    refine ym9 [0, 2, 5, 6, 41, 42, 43] ?_
    refine yj9 ?_
    repeat (first | refine on_norm ?_ | refine in_norm ?_)
    refine yh9 ?_
    refine yl9 ?_
    refine yr9 [0, 2, 5, 6, 41, 42, 43, 8] (by simp [xr9, cj, cji, hr2, yg9]; rfl) ?_
    refine W_rK [0, 2, 5, 6, 41, 42, 43, 50] ?_
    refine yq9 2 (by simp; rfl) rfl ?_
    refine runA_y (by simp) ?_
    unfold callY
    dsimp only
    refine ⟨7, 36, _, _, _, _, [recA r], by simp, rfl, by simp, by simp, by simp, by simp, ?_⟩
    refine (show Wt _ _ _ _ _ _ from ?_)
    refine zp9 [3, 6, 7, 8, 9] (by simp [setF, yg9]; rfl) ?_
    refine ⟨rfl, _, _, _, _, _, rfl, ?_⟩
    refine yl9 ?_
    refine yh9 ?_
    have hxu := fun m => outM_under hx' m
    obtain ⟨BD, hBD⟩ : ∃ BD, decide (r.bad = true ∨ r.key ≠ []) = BD := ⟨_, rfl⟩
    refine uf9 (fun s => s = ⟨36, [(3, .loc 0 0), (6, .loc 2 0), (7, .loc 3 0), (8, .loc 4 0), (9, .loc 9 0), (21, .v (.bool BD))], mbH d t p n (.lst .nil 1 []) 0 x' [mbL .busy, .cells 100 (recC r), .cells 100 (recC r)]⟩) ?_ ?_
    ·by_cases e1 : r.bad = true
     ·have hk : BD = true := by rw [← hBD]; simp [e1]
      refine zp9 [3, 6, 7, 8, 9, 21] (by simp [e1]; rfl) ?_
      refine (show _ = _ from ?_)
      rw [hk]
      simp [mbH, recC, e1]
     ·have e1' : r.bad = false := by simpa using e1
      by_cases e2 : r.key = []
      ·have hk : BD = false := by rw [← hBD]; simp [e1', e2]
       refine zp9 [3, 6, 7, 8, 9, 21] (by simp [e1', e2]; rfl) ?_
       refine (show _ = _ from ?_)
       rw [hk]
       simp [mbH, recC, e1', e2]
      ·have e2' : 0 < r.key.length := List.length_pos_iff.2 e2
       have hk : BD = true := by rw [← hBD]; simp [e2]
       refine zp9 [3, 6, 7, 8, 9, 21] (by simp [e1', e2']; rfl) ?_
       refine (show _ = _ from ?_)
       rw [hk]
       simp [mbH, recC, e1']
    rintro _ rfl
    by_cases e4 : r.bad = true ∨ r.key ≠ []
    ·rw [if_pos e4] at hmg'
     have hk : BD = true := by rw [← hBD]; exact decide_eq_true e4
     rw [hk]
     refine yt9 rfl (fun h => ?_) (fun h => by simp at h)
     refine zd9 ?_
     refine ⟨36, _, _, _, _, .done (.exit 0), false, 9, rfl, rfl, by simp, by simp, ?_, ?_⟩
     ·simp [mbH, yb9, zj9, AObj.under, AV.under, AV.underL, hxu, recC, dcbC]
     refine ⟨_, by simp; rfl, ?_⟩
     refine yw9 (by simp; rfl) ?_
     refine yt9 rfl (fun h => ?_) (fun h => by simp at h)
     refine yk9 ?_
     repeat (first | refine ys9 ?_ | refine yd9 ?_)
     exact done _ _ [_] o' x' 2 _ _ (.inr rfl) hx' hmg' (by omega) (by simp) (by simp)
    ·rw [if_neg e4] at hmg'
     have hk : BD = false := by rw [← hBD]; exact decide_eq_false e4
     rw [hk]
     refine yt9 rfl (fun h => by simp at h) (fun h => ?_)
     refine ym9 [3, 6, 7, 8, 9] ?_
     refine yj9 ?_
     repeat (first | refine on_norm ?_ | refine in_norm ?_)
     refine yh9 ?_
     by_cases e5 : r.data = []
     ·rw [if_pos e5] at hmg'
      have hub := unb_sound d o' (by omega) hob'
      refine yh9 ?_
      refine zp9 [3, 6, 7, 8, 25] (by simp [mbH, xr9, recC, e5]; rfl) ?_
      refine yt9 rfl (fun h => ?_) (fun h => by simp at h)
      simp only [dcbA] at hub
      obtain ⟨U, hU⟩ : ∃ U, unbM d o' = U := ⟨_, rfl⟩
      rw [hU] at hub
      unfold resB at hub
      rcases hx' with ⟨h0, rfl⟩ | rfl
      all_goals
       refine W_rK [] ?_
       refine yq9 2 (by simp [dcbC]; rfl) rfl ?_
       refine yf9 (by simp) (by first | (simp; done) | (simp [h0]; rfl) | (simp; rfl)) hub (by simp; rfl) ?_
       refine yw9 (by simp [yg9]; rfl) ?_
       refine yk9 ?_
       repeat (first | refine ys9 ?_ | refine yd9 ?_)
       refine ⟨36, _, _, _, _, .done .ret, false, 9, rfl, rfl, by simp, by simp, ?_, ?_⟩
       ·simp [mbH, yb9, zj9, AObj.under, AV.under, AV.underL, recC, dcbC]
       refine ⟨_, by simp; rfl, ?_⟩
       refine yw9 (by simp; rfl) ?_
       refine yt9 rfl (fun h => ?_) (fun h => by simp at h)
       refine yk9 ?_
       repeat (first | refine ys9 ?_ | refine yd9 ?_)
       exact done _ _ [_] o' _ 1 (.lst (.tip 90 57) 1 (bbL U.1)) U.2 (.inr rfl) (by first | exact .inl ⟨h0, rfl⟩ | exact .inr rfl) hmg' (by omega) (fun _ => by rw [hU]; exact ⟨rfl, rfl⟩) (by simp)
     ·rw [if_neg e5] at hmg'
      have e5' : (r.data.length == 0) = false := by simpa using e5
      have e5i : ((r.data.length : Int) == 0) = false := by
       have := List.length_pos_iff.2 e5
       simp; omega
      refine yh9 ?_
      refine zp9 [3, 6, 7, 8, 9, 25] (by simp [mbH, xr9, recC, e5i]; rfl) ?_
      refine yt9 (t := false) rfl (fun h => by simp at h) (fun h => ?_)
      refine ym9 [3, 6, 7, 8, 9] ?_
      refine yj9 ?_
      repeat (first | refine on_norm ?_ | refine in_norm ?_)
      have bo : (o'.length + 1) * 24 ≤ 140737488355328 := by omega
      have bo' : 24 * (o'.length + 1) ≤ 140737488355328 := by omega
      have hsn : bbL o' ++ [AV.lst .any 1 (byL r.data)] = bbL (o' ++ [r.data]) := by rw [xt8]; rfl
      have hobn : ∀ b ∈ o' ++ [r.data], b.length ≤ 1000000000 := fun b hb => by
       rcases List.mem_append.1 hb with hb | hb
       ·exact hob' b hb
       ·rw [List.mem_singleton.1 hb]; exact hrd
      rcases hx' with ⟨h0, rfl⟩ | rfl
      ·subst h0
       refine zp9 [3] (by simp [mbH, xr9, recC, yg9, catK, AV.cellsK, AV.kone, AV.koneL]; rfl) ?_
       refine ⟨36, _, _, _, _, .ready, true, 9, rfl, rfl, by simp, by simp, ?_, ?_⟩
       ·simp [yb9, zj9, AObj.under, AV.under, AV.underL, dcbC]
       refine ⟨_, by simp; rfl, ?_⟩
       refine yw9 (by simp; rfl) ?_
       refine yt9 rfl (fun h => by simp at h) (fun h => ?_)
       refine ym9 [0, 2, 5, 6, 41, 42, 43] ?_
       refine ug9 8 (by simp) (by simp) (by simp [xr9, uw9, zj9, AV.under, AV.underL]) (by simp [xr9, yb9, zj9, AObj.under, AV.under, AV.underL, dcbC]) ?_
       refine yj9 ?_
       repeat (first | refine on_norm ?_ | refine in_norm ?_)
       refine zp9 [0, 2, 5, 6, 41, 42, 43] (by simp [xr9, wj]; rfl) ?_
       refine ⟨_, by omega, j + 1, [r.data], _, rfl, by omega, hmg', .inr rfl, hobn, by simp at hol' ⊢; omega, ?_⟩
       simp [mbH, yn8]
      ·refine zp9 [3] (by simp [mbH, xr9, recC, yg9, catK, AV.cellsK, AV.kone, AV.koneL, bo, bo', hsn]; rfl) ?_
       refine ⟨36, _, _, _, _, .ready, true, 9, rfl, rfl, by simp, by simp, ?_, ?_⟩
       ·simp [yb9, zj9, AObj.under, AV.under, AV.underL, dcbC]
       refine ⟨_, by simp; rfl, ?_⟩
       refine yw9 (by simp; rfl) ?_
       refine yt9 rfl (fun h => by simp at h) (fun h => ?_)
       refine ym9 [0, 2, 5, 6, 41, 42, 43] ?_
       refine ug9 8 (by simp) (by simp) (by simp [xr9, uw9, zj9, AV.under, AV.underL]) (by simp [xr9, yb9, zj9, AObj.under, AV.under, AV.underL, dcbC]) ?_
       refine yj9 ?_
       repeat (first | refine on_norm ?_ | refine in_norm ?_)
       refine zp9 [0, 2, 5, 6, 41, 42, 43] (by simp [xr9, wj]; rfl) ?_
       refine ⟨_, by omega, j + 1, o' ++ [r.data], _, rfl, by omega, hmg', .inr rfl, hobn, by simp at hol' ⊢; omega, ?_⟩
       simp [mbH, dcbC, AV.killL, AV.kill]
   ·have hje : j = L.length := by omega
    subst hje
    rw [List.drop_length, List.nil_append] at hmg' hol'
    have hnx : rest = (t.getD (k + 1) []).drop 0 ++ (t.drop (k + 1 + 1)).flatten := by
     rw [← hrest, List.drop_zero]
     rcases Nat.lt_or_ge (k + 1) t.length with h | h
     ·rw [List.drop_eq_getElem_cons h, List.flatten_cons, List.getD_eq_getElem?_getD, List.getElem?_eq_getElem h]; rfl
     ·rw [List.drop_eq_nil_of_le h, List.drop_eq_nil_of_le (by omega), List.getD_eq_getElem?_getD, List.getElem?_eq_none h]; rfl
    refine yr9 [0, 2, 5, 6, 44] (by simp; rfl) ?_
    refine yh9 ?_
    refine yt9 (t := false) (by simp) (fun h => by simp at h) (fun h => ?_)
    refine ym9 [0, 2, 5, 6] ?_
    refine zd9 ?_
    refine zp9 [0, 2, 5, 6, 4] (by simp [xr9]; rfl) ?_
    repeat (first | refine on_norm ?_ | refine in_norm ?_)
    refine W_perm (fr' := [(0, .yld 7), (2, .loc 5 0), (4, .v (.int .i64 (0 : Nat))), (5, .v (.bool true)), (6, .v (.int .i64 (k : Nat)))]) (fun i => ?_) ?_
    ·by_cases h0 : i = 0
     ·subst h0; rfl
     by_cases h2 : i = 2
     ·subst h2; rfl
     by_cases h4 : i = 4
     ·subst h4; rfl
     by_cases h5 : i = 5
     ·subst h5; rfl
     by_cases h6 : i = 6
     ·subst h6; rfl
     simp [getF, h0, h2, h4, h5, h6, eq_comm]
    refine zp9 [0, 2, 4, 5, 6] (by simp [wk]; rfl) ?_
    refine ⟨_, by omega, k + 1, 0, o', x', rfl, by omega, by simp, ?_, hx', hob', ?_, ?_⟩
    rotate_left 2
    ·simp [mbH]
    ·rw [if_pos rfl, ← hnx]; exact hmg'
    ·rw [if_pos rfl, ← hnx]; exact hol'
  ·have cki : ¬ (k : Int) < t.length := by omega
   have hke : k = t.length := by omega
   refine yr9 [0, 2, 4, 5, 6, 33] (by simp [mbH, ck, cki]; rfl) ?_
   refine yt9 (t := false) (by simp [ck, cki]) (fun h => by simp at h) (fun h => ?_)
   refine zd9 ?_
   refine done _ _ [] o x 0 _ _ (.inl rfl) hx ?_ (by omega) (by simp) (by simp)
   have e1 : t.getD k [] = [] := by rw [List.getD_eq_getElem?_getD, List.getElem?_eq_none (by omega)]; rfl
   have e2 : t.drop (k + 1) = [] := List.drop_eq_nil_of_le (by omega)
   rw [hmg, e1, e2]
   simp [mg]
 ·have cpi : (t.length : Int) ≤ p := by omega
  have cpn : t.length ≤ p := by omega
  refine yr9 [0, 1, 2, 13] (by simp [mbH, cpi, cpn]; rfl) ?_
  refine yt9 (t := true) (by simp [cpi, cpn]) (fun h => ?_) (fun h => by simp at h)
  refine yk9 ?_
  repeat (first | refine ys9 ?_ | refine yd9 ?_)
  refine done _ _ [] [] _ 0 _ _ (.inr rfl) (.inl ⟨rfl, rfl⟩) ?_ (by omega) (by simp) (by simp)
  unfold restE
  rw [if_neg cp]
  rfl
end Go.AM
namespace Go.AM
open Go.RowKit Go.Proofs
set_option linter.unusedSimpArgs false
set_option linter.unusedVariables false
set_option maxHeartbeats 8000000
set_option maxRecDepth 20000
theorem member_sound (d : Dcb) (t : List (List Rec)) (p n : Nat) (hl : t.length ≤ 100000000) (ht : ∀ l ∈ t, l.length ≤ 100000000) (hf : t.flatten.length ≤ 1800000) (hd : ∀ l ∈ t, ∀ r ∈ l, r.data.length ≤ 1000000000) (hp : p ≤ 1000000000) :
  Sound Tryz.prog 32 [dcbA d, .lst .any 1 (arL t), .agg [.v (.int .i64 (p : Nat)), .v (.int .i64 (n : Nat))]] (resB (memM d t p n)) := by
 refine ww9 Tryz.func32 rfl (by decide +kernel) (by simp [Tryz.f32]) (by simp [AV.rfL, AV.rf]) (by simp [AV.tlL, AV.tl]) (rs := [.cell 6 25, .cell 7 30]) rfl ?_
 rw [show Tryz.f32.ntmps = 36 from rfl]
 have hin := mb_in d t p n hl ht hf hd hp
 refine yr9 [1, 3, 5, 6, 7] (by simp; rfl) ?_
 refine yr9 [1, 3, 5, 6, 7, 8] (by simp; rfl) ?_
 refine yh9 ?_
 refine W_rK [3, 6, 7, 8, 12] ?_
 refine yq9 2 (by simp; rfl) rfl ?_
 refine zm9 (f := 70) (args := [.lst .any 1 (arL t), .agg [.v (.int .i64 (p : Nat)), .v (.int .i64 (n : Nat))]]) (by simp) (by simp) ((recs24_callW t p n _ (by simp [yb9, zj9, AObj.under, AV.under, AV.underL])).mono ?_)
 rintro r h' ⟨rfl, rfl⟩
 refine ⟨_, by simp; rfl, ?_⟩
 refine yw9 (by simp; rfl) ?_
 refine yl9 ?_
 refine W_rangeFunc (Qc := fun _ h' => mbQ d t p n h') rfl ?_ ?_
 ·exact hin
 rintro _ _ ⟨o, x, st, rA, rE, hx, hm, h3, h1, h2, rfl⟩
 have hseq := seqE_rest t p n
 rw [hm] at hseq
 dsimp only at hseq
 refine ⟨36, _, _, _, _, _, rfl, ?_⟩
 obtain rfl | rfl | rfl : st = 0 ∨ st = 1 ∨ st = 2 := by omega
 ·obtain ⟨rfl, rfl⟩ := h2 (by omega)
  rw [if_neg (by omega)] at hseq
  have hme : memM d t p n = ([], 5) := by unfold memM; rw [hseq]
  rw [hme]
  refine (show Wt true 0 Tryz.prog _ _ _ from ?_)
  refine ym9 [3, 6, 7, 8] ?_
  refine yr9 [6, 7] (by simp [xr9, yg9]; rfl) ?_
  refine yk9 ?_
  repeat (first | refine ys9 ?_ | refine yd9 ?_)
  exact ⟨.tup [.lst .nil 1 [], .v (.int .i64 5)], by simp [retQ], .tup2 (.nil (by decide +kernel)) (.refl _)⟩
 ·obtain ⟨rfl, rfl⟩ := h1 rfl
  rw [if_pos rfl] at hseq
  have hme : memM d t p n = unbM d o := by unfold memM; rw [hseq]
  rw [hme]
  refine (show retU _ _ _ .ret _ from ?_)
  exact ⟨_, by simp [retQ]; exact ⟨rfl, by simp⟩, .norm fun T => by simp [resB]⟩
 ·obtain ⟨rfl, rfl⟩ := h2 (by omega)
  rw [if_neg (by omega)] at hseq
  have hme : memM d t p n = ([], 5) := by unfold memM; rw [hseq]
  rw [hme]
  refine (show Wt true 0 Tryz.prog _ _ _ from ?_)
  refine ym9 [3, 6, 7, 8] ?_
  refine yr9 [6, 7] (by simp [xr9, yg9]; rfl) ?_
  refine yk9 ?_
  repeat (first | refine ys9 ?_ | refine yd9 ?_)
  exact ⟨.tup [.lst .nil 1 [], .v (.int .i64 5)], by simp [retQ], .tup2 (.nil (by decide +kernel)) (.refl _)⟩
end Go.AM
namespace Go.AM
open Go.RowKit Go.Proofs
set_option linter.unusedSimpArgs false
set_option linter.unusedVariables false
set_option maxHeartbeats 2000000
theorem ix_dig (b : UInt8) : decide (0 ≤ Lib.indexByte [48, 49, 50, 51, 52, 53, 54, 55, 56, 57] b) = digB b := by
 have : ∀ n : Nat, n < 256 → decide (0 ≤ Lib.indexByte [48, 49, 50, 51, 52, 53, 54, 55, 56, 57] (UInt8.ofNat n)) = digB (UInt8.ofNat n) := by decide +kernel
 have hh := this b.toNat b.toNat_lt
 rwa [UInt8.ofNat_toNat] at hh
theorem ix_ok (b : UInt8) (h : ¬ (65 ≤ b.toNat ∧ b.toNat ≤ 90)) : decide (Lib.indexByte [48, 49, 50, 51, 52, 53, 54, 55, 56, 57, 64, 35, 36] b < 0) = !okB b := by
 have : ∀ n : Nat, n < 256 → (65 ≤ n ∧ n ≤ 90) ∨ decide (Lib.indexByte [48, 49, 50, 51, 52, 53, 54, 55, 56, 57, 64, 35, 36] (UInt8.ofNat n) < 0) = !okB (UInt8.ofNat n) := by decide +kernel
 have hh := this b.toNat b.toNat_lt
 rw [UInt8.ofNat_toNat] at hh
 exact hh.resolve_left h
theorem ur9 {l : List UInt8} (h : l.length < 1 ∨ 8 < l.length ∨ digB (l.headD 0) = true ∨ ∃ b ∈ l, okB b = false) : symM l = false := by
 rw [Bool.eq_false_iff]
 intro hs
 simp only [symM, Bool.and_eq_true, decide_eq_true_eq, Bool.not_eq_true', List.all_eq_true] at hs
 obtain ⟨h1, h2, h3, h4⟩ := hs
 rcases h with h | h | h | ⟨b, hb, h⟩
 ·omega
 ·omega
 ·rw [h] at h3; cases h3
 ·rw [h4 b hb] at h; cases h
theorem symM_true {l : List UInt8} (h1 : 1 ≤ l.length) (h2 : l.length ≤ 8) (h3 : digB (l.headD 0) = false) (h4 : l.all okB = true) : symM l = true := by
 simp only [symM, h3, h4, Bool.and_true, Bool.not_false, decide_eq_true_eq, Bool.and_eq_true]
 exact ⟨h1, h2⟩
theorem yg8 (l : List UInt8) (hl : l.length ≤ 9223372036854775807) : Sound Tryz.prog 33 [strB l] (.v (.bool (symM l))) := by
 refine yc9 Tryz.func33 rfl (by decide +kernel) (by simp [Tryz.f33]) rfl rfl (rs := [.tmp 2]) rfl ?_
 rw [show Tryz.f33.ntmps = 38 from rfl]
 simp only [strB]
 refine yr9 [0] (by simp; rfl) ?_
 refine yh9 ?_
 by_cases n1 : 1 ≤ l.length
 rotate_left
 ·have h0 : l = [] := List.eq_nil_of_length_eq_zero (by omega)
  subst h0
  refine W_rK [0, 17] ?_
  refine yq9 6 (by simp; rfl) rfl ?_
  refine yq9 6 (by simp; rfl) rfl ?_
  refine yw9 (by simp; rfl) ?_
  refine yt9 rfl (fun h => ?_) (fun h => by simp at h)
  refine yr9 [2] (by simp; rfl) ?_
  refine yk9 ?_
  repeat (first | refine ys9 ?_ | refine yd9 ?_)
  simp [retQ, ur9 (l := []) (.inl (by simp))]
 have hne : l ≠ [] := by intro h; rw [h] at n1; simp at n1
 have hne2 : (l == []) = false := by simpa using hne
 have hpos : 0 < l.length := n1
 obtain ⟨b0, hb0⟩ : ∃ b, l[0]? = some b := ⟨_, List.getElem?_eq_getElem hpos⟩
 have hb02 : l[0] = b0 := by rw [List.getElem?_eq_getElem hpos] at hb0; exact Option.some.inj hb0
 have hhd : l.headD 0 = b0 := by rw [List.headD_eq_head?_getD, List.head?_eq_getElem?, hb0]; rfl
 by_cases n2 : l.length ≤ 8
 rotate_left
 ·have n2a : (8 : Int) < (l.length : Nat) := by omega
  have n2b : 8 < l.length := by omega
  refine W_rK [0, 17] ?_
  refine yq9 6 (by simp [hne, hne2, n2a, n2b]; rfl) rfl ?_
  refine yq9 6 (by simp [hne, hne2, n2a, n2b]; rfl) rfl ?_
  refine yw9 (by simp [hne, hne2, n2a, n2b]; rfl) ?_
  refine yt9 rfl (fun h => ?_) (fun h => by simp at h)
  refine yr9 [2] (by simp; rfl) ?_
  refine yk9 ?_
  repeat (first | refine ys9 ?_ | refine yd9 ?_)
  simp [retQ, ur9 (.inr (.inl n2b))]
 have n2a : ¬ (8 : Int) < (l.length : Nat) := by omega
 have n2b : ¬ 8 < l.length := by omega
 refine W_rK [0, 17] ?_
 refine yq9 5 (by simp [hne, hne2, n2a, n2b, hpos, hb0, hb02]; rfl) rfl ?_
 refine yq9 5 (by simp [hne, hne2, n2a, n2b, hpos, hb0, hb02]; rfl) rfl ?_
 refine yf9 (by simp) (by first | (simp; done) | (simp; rfl)) (wq8 ⟨#[48, 49, 50, 51, 52, 53, 54, 55, 56, 57]⟩ (b0.toNat : Nat)) (by simp; rfl) ?_
 have hix := ix_dig b0
 obtain ⟨X, hX⟩ : ∃ X : Int, Lib.indexByte [48, 49, 50, 51, 52, 53, 54, 55, 56, 57] b0 = X := ⟨_, rfl⟩
 rw [hX] at hix
 refine yw9 (by simp [hX]; rfl) ?_
 cases hd : digB b0 with
 | true =>
  rw [hd] at hix
  have hx0 : 0 ≤ X := by simpa using hix
  refine yt9 (t := true) (by simp [hx0]) (fun h => ?_) (fun h => by simp at h)
  refine yr9 [2] (by simp; rfl) ?_
  refine yk9 ?_
  repeat (first | refine ys9 ?_ | refine yd9 ?_)
  have : symM l = false := ur9 (.inr (.inr (.inl (by rw [hhd]; exact hd))))
  simp [retQ, this]
 | false =>
 rw [hd] at hix
 have hx0 : ¬ 0 ≤ X := by simpa using hix
 refine yt9 (t := false) (by simp [hx0]) (fun h => by simp at h) (fun h => ?_)
 refine yj9 ?_
 refine yh9 ?_
 refine yr9 [0, 19, 20] (by simp; rfl) ?_
 refine yl9 ?_
 refine zg9 (fun k σ => ∃ i : Nat, k = l.length - i ∧ i ≤ l.length ∧ (l.take i).all okB = true ∧ σ = ⟨38, [(0, .v (.string ⟨l.toArray⟩)), (19, .v (.int .i64 (l.length : Nat))), (20, .v (.int .i64 (i : Nat)))], []⟩) (k := l.length) ⟨0, rfl, by omega, by simp, by simp⟩ ?_
 rintro k s ⟨i, rfl, hi, hall, rfl⟩
 by_cases c : i < l.length
 ·have ci : (i : Int) < l.length := by omega
  obtain ⟨b, hb⟩ : ∃ b, l[i]? = some b := ⟨_, List.getElem?_eq_getElem c⟩
  have hb2 : l[i] = b := by rw [List.getElem?_eq_getElem c] at hb; exact Option.some.inj hb
  have wi := w64 (n := (i : Int) + 1) (by omega) (by omega)
  have next : okB b = true → (l.take (i + 1)).all okB = true := by
   intro ho
   rw [List.take_add_one, hb]
   simp [ho]
   simpa using hall
  refine yr9 [0, 19, 20, 21] (by simp [c, ci]; rfl) ?_
  refine yh9 ?_
  refine yt9 rfl (fun h => ?_) (fun h => by simp at h)
  refine yj9 ?_
  refine yh9 ?_
  refine yl9 ?_
  refine yr9 [0, 19, 20, 3] (by simp; rfl) ?_
  refine yr9 [0, 19, 20, 4] (by simp [c, ci, hb, hb2]; rfl) ?_
  by_cases hL : 65 ≤ b.toNat ∧ b.toNat ≤ 90
  ·obtain ⟨q1, q2⟩ := hL
   have q1a : ¬ ((b.toNat : Nat) : Int) < 65 := by omega
   have q1b : ¬ b.toNat < 65 := by omega
   have q2a : ¬ (90 : Int) < (b.toNat : Nat) := by omega
   have q2b : ¬ 90 < b.toNat := by omega
   have ho : okB b = true := by simp [okB, okC, q1, q2]; omega
   refine W_rK [0, 19, 20, 36] ?_
   refine yq9 5 (by simp [q1a, q1b, q2a, q2b]; rfl) rfl ?_
   refine yq9 5 (by simp [q1a, q1b, q2a, q2b]; rfl) rfl ?_
   refine yw9 (by simp [q1a, q1b, q2a, q2b]; rfl) ?_
   refine yt9 rfl (fun h => by simp at h) (fun h => ?_)
   refine yj9 ?_
   refine zp9 [0, 19, 20] (by simp [wi]; rfl) ?_
   exact ⟨_, by omega, i + 1, rfl, by omega, next ho, by simp⟩
  have hix2 := ix_ok b hL
  obtain ⟨Y, hY⟩ : ∃ Y : Int, Lib.indexByte [48, 49, 50, 51, 52, 53, 54, 55, 56, 57, 64, 35, 36] b = Y := ⟨_, rfl⟩
  rw [hY] at hix2
  refine uf9 (fun σ => σ = ⟨38, [(0, .v (.string ⟨l.toArray⟩)), (19, .v (.int .i64 (l.length : Nat))), (20, .v (.int .i64 (i : Nat))), (36, .v (.bool (decide (Y < 0))))], []⟩) ?_ ?_
  ·by_cases q1 : 65 ≤ b.toNat
   ·have q2 : 90 < b.toNat := by omega
    have q1a : ¬ ((b.toNat : Nat) : Int) < 65 := by omega
    have q1b : ¬ b.toNat < 65 := by omega
    have q2a : (90 : Int) < (b.toNat : Nat) := by omega
    refine W_rE [0, 19, 20, 36] ?_
    refine yq9 4 (by simp [q1a, q1b, q2a, q2]; rfl) rfl ?_
    refine yq9 4 (by simp [q1a, q1b, q2a, q2]; rfl) rfl ?_
    refine yf9 (by simp) (by first | (simp; done) | (simp; rfl)) (wq8 ⟨#[48, 49, 50, 51, 52, 53, 54, 55, 56, 57, 64, 35, 36]⟩ (b.toNat : Nat)) (by simp; rfl) ?_
    refine yw9 (by simp [hY]; rfl) ?_
    simp [zw9]
   ·have q1a : ((b.toNat : Nat) : Int) < 65 := by omega
    have q1b : b.toNat < 65 := by omega
    refine W_rE [0, 19, 20, 36] ?_
    refine yq9 4 (by simp [q1a, q1b]; rfl) rfl ?_
    refine yq9 4 (by simp [q1a, q1b]; rfl) rfl ?_
    refine yf9 (by simp) (by first | (simp; done) | (simp; rfl)) (wq8 ⟨#[48, 49, 50, 51, 52, 53, 54, 55, 56, 57, 64, 35, 36]⟩ (b.toNat : Nat)) (by simp; rfl) ?_
    refine yw9 (by simp [hY]; rfl) ?_
    simp [zw9]
  rintro _ rfl
  cases ho : okB b with
  | true =>
   rw [ho] at hix2
   have hy : ¬ Y < 0 := by simpa using hix2
   refine yt9 (t := false) (by simp [hy]) (fun h => by simp at h) (fun h => ?_)
   refine yj9 ?_
   refine zp9 [0, 19, 20] (by simp [wi]; rfl) ?_
   exact ⟨_, by omega, i + 1, rfl, by omega, next ho, by simp⟩
  | false =>
   rw [ho] at hix2
   have hy : Y < 0 := by simpa using hix2
   refine yt9 (t := true) (by simp [hy]) (fun h => ?_) (fun h => by simp at h)
   refine yr9 [2] (by simp; rfl) ?_
   refine yk9 ?_
   repeat (first | refine ys9 ?_ | refine yd9 ?_)
   have : symM l = false := ur9 (.inr (.inr (.inr ⟨b, List.mem_of_getElem? hb, ho⟩)))
   simp [retQ, this]
 have hie : i = l.length := by omega
 refine yr9 [0, 19, 20, 21] (by simp [c]; rfl) ?_
 refine yh9 ?_
 refine yt9 (t := false) (by simp [hie]) (fun h => by simp at h) (fun h => ?_)
 refine zd9 ?_
 refine yr9 [2] (by simp; rfl) ?_
 refine yk9 ?_
 repeat (first | refine ys9 ?_ | refine yd9 ?_)
 have ha : l.all okB = true := by rw [hie, List.take_length] at hall; exact hall
 have : symM l = true := symM_true n1 n2 (by rw [hhd]; exact hd) ha
 simp [retQ, this]
def letB (b : UInt8) : Bool := (decide (65 ≤ b.toNat) && decide (b.toNat ≤ 90)) || (decide (b.toNat = 64) || (decide (b.toNat = 35) || decide (b.toNat = 36)))
def badN (i : Nat) (b : UInt8) (L : Bool) : Bool := !L && (decide (i = 0) || (decide (b.toNat < 48) || decide (57 < b.toNat)))
theorem badN_eq (i : Nat) (b : UInt8) : badN i b (letB b) = (!okB b || (decide (i = 0) && digB b)) := by
 have h : ∀ n : Nat, n < 256 → ∀ z : Bool, (!letB (UInt8.ofNat n) && (z || (decide ((UInt8.ofNat n).toNat < 48) || decide (57 < (UInt8.ofNat n).toNat)))) = (!okB (UInt8.ofNat n) || (z && digB (UInt8.ofNat n))) := by decide +kernel
 have hh := h b.toNat b.toNat_lt (decide (i = 0))
 rwa [UInt8.ofNat_toNat] at hh
theorem rname_sound (l : List UInt8) (hl : l.length ≤ 9223372036854775807) : Sound Tryz.prog 46 [strB l] (.v (.bool (symM l))) := by
 refine yc9 Tryz.func46 rfl (by decide +kernel) (by simp [Tryz.f46]) rfl rfl (rs := [.tmp 2]) rfl ?_
 rw [show Tryz.f46.ntmps = 65 from rfl]
 simp only [strB]
 refine yr9 [0] (by simp; rfl) ?_
 refine yh9 ?_
 refine yr9 [0, 3] (by simp; rfl) ?_
 refine yl9 ?_
 refine zg9 (fun k σ => ∃ i : Nat, k = l.length - i ∧ i ≤ l.length ∧ (l.take i).all okB = true ∧ (0 < i → digB (l.headD 0) = false) ∧ σ = ⟨65, [(0, .v (.string ⟨l.toArray⟩)), (3, .v (.int .i64 (i : Nat)))], []⟩) (k := l.length) ⟨0, rfl, by omega, by simp, by omega, by simp⟩ ?_
 rintro k s ⟨i, rfl, hi, hall, hd0, rfl⟩
 refine yh9 ?_
 by_cases c : i < l.length
 ·have ci : (i : Int) < l.length := by omega
  obtain ⟨b, hb⟩ : ∃ b, l[i]? = some b := ⟨_, List.getElem?_eq_getElem c⟩
  have hb2 : l[i] = b := by rw [List.getElem?_eq_getElem c] at hb; exact Option.some.inj hb
  have wi := w64 (n := (i : Int) + 1) (by omega) (by omega)
  refine W_cT [0, 3, 8] (by simp [c, ci]; rfl) rfl ?_
  refine yj9 ?_
  refine yh9 ?_
  refine yl9 ?_
  refine uf9 (fun σ => σ = ⟨65, [(0, .v (.string ⟨l.toArray⟩)), (3, .v (.int .i64 (i : Nat))), (4, .v (.bool (letB b)))], []⟩) ?_ ?_
  ·by_cases p1 : 65 ≤ b.toNat
   ·have p10 : 65 ≤ b.toNat := p1
    have p1a : (65 : Int) ≤ (b.toNat : Nat) := by omega
    have p1b : ¬ b.toNat < 65 := by omega
    have p1c : ¬ ((b.toNat : Nat) : Int) < 65 := by omega
    by_cases p2 : b.toNat ≤ 90
    ·have p20 : b.toNat ≤ 90 := p2
     have p2a : ((b.toNat : Nat) : Int) ≤ 90 := by omega
     have p2b : ¬ 90 < b.toNat := by omega
     have p2c : ¬ (90 : Int) < (b.toNat : Nat) := by omega
     refine W_rE [0, 3, 4] ?_
     refine yq9 6 (by simp [c, ci, hb, hb2, p10, p1a, p1b, p1c, p20, p2a, p2b, p2c]; rfl) rfl ?_
     refine yq9 6 (by simp [c, ci, hb, hb2, p10, p1a, p1b, p1c, p20, p2a, p2b, p2c]; rfl) rfl ?_
     refine yq9 6 (by simp [c, ci, hb, hb2, p10, p1a, p1b, p1c, p20, p2a, p2b, p2c]; rfl) rfl ?_
     refine yq9 6 (by simp [c, ci, hb, hb2, p10, p1a, p1b, p1c, p20, p2a, p2b, p2c]; rfl) rfl ?_
     refine yw9 (by simp [c, ci, hb, hb2, p10, p1a, p1b, p1c, p20, p2a, p2b, p2c]; rfl) ?_
     simp [zw9, letB, c, ci, hb, hb2, p10, p1a, p1b, p1c, p20, p2a, p2b, p2c]
    have p20 : ¬ b.toNat ≤ 90 := p2
    have p2a : ¬ ((b.toNat : Nat) : Int) ≤ 90 := by omega
    have p2b : 90 < b.toNat := by omega
    have p2c : (90 : Int) < (b.toNat : Nat) := by omega
    by_cases p5 : b.toNat = 64
    ·have p50 : b.toNat = 64 := p5
     have p5a : ((b.toNat : Nat) : Int) = 64 := by omega
     refine W_rE [0, 3, 4] ?_
     refine yq9 6 (by simp [c, ci, hb, hb2, p10, p1a, p1b, p1c, p20, p2a, p2b, p2c, p50, p5a]; rfl) rfl ?_
     refine yq9 6 (by simp [c, ci, hb, hb2, p10, p1a, p1b, p1c, p20, p2a, p2b, p2c, p50, p5a]; rfl) rfl ?_
     refine yq9 6 (by simp [c, ci, hb, hb2, p10, p1a, p1b, p1c, p20, p2a, p2b, p2c, p50, p5a]; rfl) rfl ?_
     refine yq9 6 (by simp [c, ci, hb, hb2, p10, p1a, p1b, p1c, p20, p2a, p2b, p2c, p50, p5a]; rfl) rfl ?_
     refine yw9 (by simp [c, ci, hb, hb2, p10, p1a, p1b, p1c, p20, p2a, p2b, p2c, p50, p5a]; rfl) ?_
     simp [zw9, letB, c, ci, hb, hb2, p10, p1a, p1b, p1c, p20, p2a, p2b, p2c, p50, p5a]
    have p50 : ¬ b.toNat = 64 := p5
    have p5a : ¬ ((b.toNat : Nat) : Int) = 64 := by omega
    have p5b : (((b.toNat : Nat) : Int) == 64) = false := beq_eq_false_iff_ne.2 (by omega)
    by_cases p6 : b.toNat = 35
    ·have p60 : b.toNat = 35 := p6
     have p6a : ((b.toNat : Nat) : Int) = 35 := by omega
     refine W_rE [0, 3, 4] ?_
     refine yq9 6 (by simp [c, ci, hb, hb2, p10, p1a, p1b, p1c, p20, p2a, p2b, p2c, p50, p5a, p5b, p60, p6a]; rfl) rfl ?_
     refine yq9 6 (by simp [c, ci, hb, hb2, p10, p1a, p1b, p1c, p20, p2a, p2b, p2c, p50, p5a, p5b, p60, p6a]; rfl) rfl ?_
     refine yq9 6 (by simp [c, ci, hb, hb2, p10, p1a, p1b, p1c, p20, p2a, p2b, p2c, p50, p5a, p5b, p60, p6a]; rfl) rfl ?_
     refine yq9 6 (by simp [c, ci, hb, hb2, p10, p1a, p1b, p1c, p20, p2a, p2b, p2c, p50, p5a, p5b, p60, p6a]; rfl) rfl ?_
     refine yw9 (by simp [c, ci, hb, hb2, p10, p1a, p1b, p1c, p20, p2a, p2b, p2c, p50, p5a, p5b, p60, p6a]; rfl) ?_
     simp [zw9, letB, c, ci, hb, hb2, p10, p1a, p1b, p1c, p20, p2a, p2b, p2c, p50, p5a, p5b, p60, p6a]
    have p60 : ¬ b.toNat = 35 := p6
    have p6a : ¬ ((b.toNat : Nat) : Int) = 35 := by omega
    have p6b : (((b.toNat : Nat) : Int) == 35) = false := beq_eq_false_iff_ne.2 (by omega)
    by_cases p7 : b.toNat = 36
    ·have p70 : b.toNat = 36 := p7
     have p7a : ((b.toNat : Nat) : Int) = 36 := by omega
     refine W_rE [0, 3, 4] ?_
     refine yq9 6 (by simp [c, ci, hb, hb2, p10, p1a, p1b, p1c, p20, p2a, p2b, p2c, p50, p5a, p5b, p60, p6a, p6b, p70, p7a]; rfl) rfl ?_
     refine yq9 6 (by simp [c, ci, hb, hb2, p10, p1a, p1b, p1c, p20, p2a, p2b, p2c, p50, p5a, p5b, p60, p6a, p6b, p70, p7a]; rfl) rfl ?_
     refine yq9 6 (by simp [c, ci, hb, hb2, p10, p1a, p1b, p1c, p20, p2a, p2b, p2c, p50, p5a, p5b, p60, p6a, p6b, p70, p7a]; rfl) rfl ?_
     refine yq9 6 (by simp [c, ci, hb, hb2, p10, p1a, p1b, p1c, p20, p2a, p2b, p2c, p50, p5a, p5b, p60, p6a, p6b, p70, p7a]; rfl) rfl ?_
     refine yw9 (by simp [c, ci, hb, hb2, p10, p1a, p1b, p1c, p20, p2a, p2b, p2c, p50, p5a, p5b, p60, p6a, p6b, p70, p7a]; rfl) ?_
     simp [zw9, letB, c, ci, hb, hb2, p10, p1a, p1b, p1c, p20, p2a, p2b, p2c, p50, p5a, p5b, p60, p6a, p6b, p70, p7a]
    have p70 : ¬ b.toNat = 36 := p7
    have p7a : ¬ ((b.toNat : Nat) : Int) = 36 := by omega
    have p7b : (((b.toNat : Nat) : Int) == 36) = false := beq_eq_false_iff_ne.2 (by omega)
    refine W_rE [0, 3, 4] ?_
    refine yq9 6 (by simp [c, ci, hb, hb2, p10, p1a, p1b, p1c, p20, p2a, p2b, p2c, p50, p5a, p5b, p60, p6a, p6b, p70, p7a, p7b]; rfl) rfl ?_
    refine yq9 6 (by simp [c, ci, hb, hb2, p10, p1a, p1b, p1c, p20, p2a, p2b, p2c, p50, p5a, p5b, p60, p6a, p6b, p70, p7a, p7b]; rfl) rfl ?_
    refine yq9 6 (by simp [c, ci, hb, hb2, p10, p1a, p1b, p1c, p20, p2a, p2b, p2c, p50, p5a, p5b, p60, p6a, p6b, p70, p7a, p7b]; rfl) rfl ?_
    refine yq9 6 (by simp [c, ci, hb, hb2, p10, p1a, p1b, p1c, p20, p2a, p2b, p2c, p50, p5a, p5b, p60, p6a, p6b, p70, p7a, p7b]; rfl) rfl ?_
    refine yw9 (by simp [c, ci, hb, hb2, p10, p1a, p1b, p1c, p20, p2a, p2b, p2c, p50, p5a, p5b, p60, p6a, p6b, p70, p7a, p7b]; rfl) ?_
    simp [zw9, letB, c, ci, hb, hb2, p10, p1a, p1b, p1c, p20, p2a, p2b, p2c, p50, p5a, p5b, p60, p6a, p6b, p70, p7a, p7b]
   have p10 : ¬ 65 ≤ b.toNat := p1
   have p1a : ¬ (65 : Int) ≤ (b.toNat : Nat) := by omega
   have p1b : b.toNat < 65 := by omega
   have p1c : ((b.toNat : Nat) : Int) < 65 := by omega
   by_cases p5 : b.toNat = 64
   ·have p50 : b.toNat = 64 := p5
    have p5a : ((b.toNat : Nat) : Int) = 64 := by omega
    refine W_rE [0, 3, 4] ?_
    refine yq9 6 (by simp [c, ci, hb, hb2, p10, p1a, p1b, p1c, p50, p5a]; rfl) rfl ?_
    refine yq9 6 (by simp [c, ci, hb, hb2, p10, p1a, p1b, p1c, p50, p5a]; rfl) rfl ?_
    refine yq9 6 (by simp [c, ci, hb, hb2, p10, p1a, p1b, p1c, p50, p5a]; rfl) rfl ?_
    refine yq9 6 (by simp [c, ci, hb, hb2, p10, p1a, p1b, p1c, p50, p5a]; rfl) rfl ?_
    refine yw9 (by simp [c, ci, hb, hb2, p10, p1a, p1b, p1c, p50, p5a]; rfl) ?_
    simp [zw9, letB, c, ci, hb, hb2, p10, p1a, p1b, p1c, p50, p5a]
   have p50 : ¬ b.toNat = 64 := p5
   have p5a : ¬ ((b.toNat : Nat) : Int) = 64 := by omega
   have p5b : (((b.toNat : Nat) : Int) == 64) = false := beq_eq_false_iff_ne.2 (by omega)
   by_cases p6 : b.toNat = 35
   ·have p60 : b.toNat = 35 := p6
    have p6a : ((b.toNat : Nat) : Int) = 35 := by omega
    refine W_rE [0, 3, 4] ?_
    refine yq9 6 (by simp [c, ci, hb, hb2, p10, p1a, p1b, p1c, p50, p5a, p5b, p60, p6a]; rfl) rfl ?_
    refine yq9 6 (by simp [c, ci, hb, hb2, p10, p1a, p1b, p1c, p50, p5a, p5b, p60, p6a]; rfl) rfl ?_
    refine yq9 6 (by simp [c, ci, hb, hb2, p10, p1a, p1b, p1c, p50, p5a, p5b, p60, p6a]; rfl) rfl ?_
    refine yq9 6 (by simp [c, ci, hb, hb2, p10, p1a, p1b, p1c, p50, p5a, p5b, p60, p6a]; rfl) rfl ?_
    refine yw9 (by simp [c, ci, hb, hb2, p10, p1a, p1b, p1c, p50, p5a, p5b, p60, p6a]; rfl) ?_
    simp [zw9, letB, c, ci, hb, hb2, p10, p1a, p1b, p1c, p50, p5a, p5b, p60, p6a]
   have p60 : ¬ b.toNat = 35 := p6
   have p6a : ¬ ((b.toNat : Nat) : Int) = 35 := by omega
   have p6b : (((b.toNat : Nat) : Int) == 35) = false := beq_eq_false_iff_ne.2 (by omega)
   by_cases p7 : b.toNat = 36
   ·have p70 : b.toNat = 36 := p7
    have p7a : ((b.toNat : Nat) : Int) = 36 := by omega
    refine W_rE [0, 3, 4] ?_
    refine yq9 6 (by simp [c, ci, hb, hb2, p10, p1a, p1b, p1c, p50, p5a, p5b, p60, p6a, p6b, p70, p7a]; rfl) rfl ?_
    refine yq9 6 (by simp [c, ci, hb, hb2, p10, p1a, p1b, p1c, p50, p5a, p5b, p60, p6a, p6b, p70, p7a]; rfl) rfl ?_
    refine yq9 6 (by simp [c, ci, hb, hb2, p10, p1a, p1b, p1c, p50, p5a, p5b, p60, p6a, p6b, p70, p7a]; rfl) rfl ?_
    refine yq9 6 (by simp [c, ci, hb, hb2, p10, p1a, p1b, p1c, p50, p5a, p5b, p60, p6a, p6b, p70, p7a]; rfl) rfl ?_
    refine yw9 (by simp [c, ci, hb, hb2, p10, p1a, p1b, p1c, p50, p5a, p5b, p60, p6a, p6b, p70, p7a]; rfl) ?_
    simp [zw9, letB, c, ci, hb, hb2, p10, p1a, p1b, p1c, p50, p5a, p5b, p60, p6a, p6b, p70, p7a]
   have p70 : ¬ b.toNat = 36 := p7
   have p7a : ¬ ((b.toNat : Nat) : Int) = 36 := by omega
   have p7b : (((b.toNat : Nat) : Int) == 36) = false := beq_eq_false_iff_ne.2 (by omega)
   refine W_rE [0, 3, 4] ?_
   refine yq9 6 (by simp [c, ci, hb, hb2, p10, p1a, p1b, p1c, p50, p5a, p5b, p60, p6a, p6b, p70, p7a, p7b]; rfl) rfl ?_
   refine yq9 6 (by simp [c, ci, hb, hb2, p10, p1a, p1b, p1c, p50, p5a, p5b, p60, p6a, p6b, p70, p7a, p7b]; rfl) rfl ?_
   refine yq9 6 (by simp [c, ci, hb, hb2, p10, p1a, p1b, p1c, p50, p5a, p5b, p60, p6a, p6b, p70, p7a, p7b]; rfl) rfl ?_
   refine yq9 6 (by simp [c, ci, hb, hb2, p10, p1a, p1b, p1c, p50, p5a, p5b, p60, p6a, p6b, p70, p7a, p7b]; rfl) rfl ?_
   refine yw9 (by simp [c, ci, hb, hb2, p10, p1a, p1b, p1c, p50, p5a, p5b, p60, p6a, p6b, p70, p7a, p7b]; rfl) ?_
   simp [zw9, letB, c, ci, hb, hb2, p10, p1a, p1b, p1c, p50, p5a, p5b, p60, p6a, p6b, p70, p7a, p7b]
  rintro _ rfl
  have hLd : ∀ t : Bool, letB b = t → True := fun _ _ => trivial
  obtain ⟨L, hL⟩ : ∃ L, letB b = L := ⟨_, rfl⟩
  rw [hL]
  refine uf9 (fun σ => σ = ⟨65, [(0, .v (.string ⟨l.toArray⟩)), (3, .v (.int .i64 (i : Nat))), (56, .v (.bool (badN i b L)))], []⟩) ?_ ?_
  ·by_cases r1 : L = true
   ·have r1a : L = true := r1
    refine W_rE [0, 3, 56] ?_
    refine yq9 6 (by simp [c, ci, hb, hb2, r1a]; rfl) rfl ?_
    refine yq9 6 (by simp [c, ci, hb, hb2, r1a]; rfl) rfl ?_
    refine yw9 (by simp [c, ci, hb, hb2, r1a]; rfl) ?_
    simp [zw9, badN, c, ci, hb, hb2, r1a]
   have r1a : L = false := by simpa using r1
   by_cases r2 : i = 0
   ·have r20 : i = 0 := r2
    have r2a : ((i : Nat) : Int) = 0 := by omega
    refine W_rE [0, 3, 56] ?_
    refine yq9 6 (by simp [c, ci, hb, hb2, r1a, r20, r2a]; rfl) rfl ?_
    refine yq9 6 (by simp [c, ci, hb, hb2, r1a, r20, r2a]; rfl) rfl ?_
    refine yw9 (by simp [c, ci, hb, hb2, r1a, r20, r2a]; rfl) ?_
    simp [zw9, badN, c, ci, hb, hb2, r1a, r20, r2a]
   have r20 : ¬ i = 0 := r2
   have r2a : ¬ ((i : Nat) : Int) = 0 := by omega
   have r2b : (((i : Nat) : Int) == 0) = false := beq_eq_false_iff_ne.2 (by omega)
   by_cases r3 : b.toNat < 48
   ·have r30 : b.toNat < 48 := r3
    have r3a : ((b.toNat : Nat) : Int) < 48 := by omega
    refine W_rE [0, 3, 56] ?_
    refine yq9 6 (by simp [c, ci, hb, hb2, r1a, r20, r2a, r2b, r30, r3a]; rfl) rfl ?_
    refine yq9 6 (by simp [c, ci, hb, hb2, r1a, r20, r2a, r2b, r30, r3a]; rfl) rfl ?_
    refine yw9 (by simp [c, ci, hb, hb2, r1a, r20, r2a, r2b, r30, r3a]; rfl) ?_
    simp [zw9, badN, c, ci, hb, hb2, r1a, r20, r2a, r2b, r30, r3a]
   have r30 : ¬ b.toNat < 48 := r3
   have r3a : ¬ ((b.toNat : Nat) : Int) < 48 := by omega
   by_cases r4 : 57 < b.toNat
   ·have r40 : 57 < b.toNat := r4
    have r4a : (57 : Int) < (b.toNat : Nat) := by omega
    refine W_rE [0, 3, 56] ?_
    refine yq9 6 (by simp [c, ci, hb, hb2, r1a, r20, r2a, r2b, r30, r3a, r40, r4a]; rfl) rfl ?_
    refine yq9 6 (by simp [c, ci, hb, hb2, r1a, r20, r2a, r2b, r30, r3a, r40, r4a]; rfl) rfl ?_
    refine yw9 (by simp [c, ci, hb, hb2, r1a, r20, r2a, r2b, r30, r3a, r40, r4a]; rfl) ?_
    simp [zw9, badN, c, ci, hb, hb2, r1a, r20, r2a, r2b, r30, r3a, r40, r4a]
   have r40 : ¬ 57 < b.toNat := r4
   have r4a : ¬ (57 : Int) < (b.toNat : Nat) := by omega
   refine W_rE [0, 3, 56] ?_
   refine yq9 6 (by simp [c, ci, hb, hb2, r1a, r20, r2a, r2b, r30, r3a, r40, r4a]; rfl) rfl ?_
   refine yq9 6 (by simp [c, ci, hb, hb2, r1a, r20, r2a, r2b, r30, r3a, r40, r4a]; rfl) rfl ?_
   refine yw9 (by simp [c, ci, hb, hb2, r1a, r20, r2a, r2b, r30, r3a, r40, r4a]; rfl) ?_
   simp [zw9, badN, c, ci, hb, hb2, r1a, r20, r2a, r2b, r30, r3a, r40, r4a]
  rintro _ rfl
  have hbad : badN i b L = (!okB b || (decide (i = 0) && digB b)) := by rw [← hL]; exact badN_eq i b
  have hhd : i = 0 → l.headD 0 = b := by
   intro h0
   rw [List.headD_eq_head?_getD, List.head?_eq_getElem?, ← h0, hb]
   rfl
  cases hB : badN i b L with
  | true =>
   refine yt9 rfl (fun h => ?_) (fun h => by simp at h)
   refine yr9 [2] (by simp; rfl) ?_
   refine yk9 ?_
   repeat (first | refine ys9 ?_ | refine yd9 ?_)
   have : symM l = false := by
    rw [hB] at hbad
    have hb3 := hbad.symm
    simp only [Bool.or_eq_true, Bool.not_eq_true', Bool.and_eq_true, decide_eq_true_eq] at hb3
    rcases hb3 with h1 | ⟨h1, h2⟩
    ·exact ur9 (.inr (.inr (.inr ⟨b, List.mem_of_getElem? hb, h1⟩)))
    ·exact ur9 (.inr (.inr (.inl (by rw [hhd h1]; exact h2))))
   simp [retQ, this]
  | false =>
   refine yt9 rfl (fun h => by simp at h) (fun h => ?_)
   refine yj9 ?_
   refine zp9 [0, 3] (by simp [wi]; rfl) ?_
   rw [hB] at hbad
   have hb3 := hbad.symm
   simp only [Bool.or_eq_false_iff, Bool.not_eq_false', Bool.and_eq_false_iff, decide_eq_false_iff_not] at hb3
   refine ⟨_, by omega, i + 1, rfl, by omega, ?_, fun _ => ?_, by simp⟩
   ·rw [List.take_add_one, hb]
    simp [hb3.1]
    simpa using hall
   ·by_cases h0 : i = 0
    ·rw [hhd h0]
     rcases hb3.2 with h1 | h1
     ·exact absurd h0 h1
     ·exact h1
    ·exact hd0 (by omega)
 have hie : i = l.length := by omega
 have ha : l.all okB = true := by rw [hie, List.take_length] at hall; exact hall
 refine yr9 [0, 3, 8] (by simp [c]; rfl) ?_
 refine yt9 (t := false) (by simp [hie]) (fun h => by simp at h) (fun h => ?_)
 refine zd9 ?_
 by_cases n1 : 1 ≤ l.length
 ·have n10 : 1 ≤ l.length := n1
  have n1a : (1 : Int) ≤ (l.length : Nat) := by omega
  have n1b : ¬ l.length < 1 := by omega
  have n1c : ¬ ((l.length : Nat) : Int) < 1 := by omega
  by_cases n2 : l.length ≤ 8
  ·have n20 : l.length ≤ 8 := n2
   have n2a : ((l.length : Nat) : Int) ≤ 8 := by omega
   have n2b : ¬ 8 < l.length := by omega
   have n2c : ¬ (8 : Int) < (l.length : Nat) := by omega
   refine W_rK [2] ?_
   refine yq9 5 (by simp [n10, n1a, n1b, n1c, n20, n2a, n2b, n2c]; rfl) rfl ?_
   refine yw9 (by simp [n10, n1a, n1b, n1c, n20, n2a, n2b, n2c]; rfl) ?_
   refine yk9 ?_
   repeat (first | refine ys9 ?_ | refine yd9 ?_)
   have : symM l = true := symM_true n1 n2 (hd0 (by omega)) ha
   simp [retQ, this]
  have n20 : ¬ l.length ≤ 8 := n2
  have n2a : ¬ ((l.length : Nat) : Int) ≤ 8 := by omega
  have n2b : 8 < l.length := by omega
  have n2c : (8 : Int) < (l.length : Nat) := by omega
  refine W_rK [2] ?_
  refine yq9 5 (by simp [n10, n1a, n1b, n1c, n20, n2a, n2b, n2c]; rfl) rfl ?_
  refine yw9 (by simp [n10, n1a, n1b, n1c, n20, n2a, n2b, n2c]; rfl) ?_
  refine yk9 ?_
  repeat (first | refine ys9 ?_ | refine yd9 ?_)
  have : symM l = false := ur9 (by omega)
  simp [retQ, this]
 have n10 : ¬ 1 ≤ l.length := n1
 have n1a : ¬ (1 : Int) ≤ (l.length : Nat) := by omega
 have n1b : l.length < 1 := by omega
 have n1c : ((l.length : Nat) : Int) < 1 := by omega
 refine W_rK [2] ?_
 refine yq9 5 (by simp [n10, n1a, n1b, n1c]; rfl) rfl ?_
 refine yw9 (by simp [n10, n1a, n1b, n1c]; rfl) ?_
 refine yk9 ?_
 repeat (first | refine ys9 ?_ | refine yd9 ?_)
 have : symM l = false := ur9 (by omega)
 simp [retQ, this]
end Go.AM
