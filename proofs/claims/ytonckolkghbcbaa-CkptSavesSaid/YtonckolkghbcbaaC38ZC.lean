/- Save once more: its tracks are made slices that nobody shares. -/
import Derived.Test.YtonckolkghbcbaaC38S
import Derived.Test.YtonckolkghbcbaaC38ZB
import Derived.Test.YtonckolkghbcbaaAmC
namespace Go.AM
open Go.RowKit Go.Proofs
set_option linter.unusedSimpArgs false
set_option linter.unusedVariables false
set_option maxHeartbeats 2000000

theorem shalL_byL38 (l : List UInt8) : AV.shalL (byL l) = true := by
  unfold AV.shalL byL
  simp only [List.all_map, List.all_eq_true]
  intro b _
  rfl
def keepH (h h' : List AObj) : Prop := ∀ (i : Nat) (ty : TypeId) (cs : List AV), ty ≠ 28 → h[i]? = some (.cells ty cs) → h'[i]? = some (.cells ty cs)

def trk1 (h : List AObj) (c : AV) (r : Rec) : Prop := ∃ (jt jd cap : Nat) (bs : List AV), c = .arr jt 0 1 1 ∧ h[jt]? = some (.cells 52 [.v (.int .i64 r.R), .lst .nil 1 [], .arr jd 0 r.data.length cap, .v (.bool r.bad)]) ∧
  h[jd]? = some (.cells 5 bs) ∧ bs.take r.data.length = byL r.data
theorem trk1_keep {h h' : List AObj} {c : AV} {r : Rec} (ht : trk1 h c r) (hk : keepH h h') : trk1 h' c r := by
  obtain ⟨jt, jd, cap, bs, h1, h2, h3, h4⟩ := ht
  exact ⟨jt, jd, cap, bs, h1, hk _ _ _ (by decide) h2, hk _ _ _ (by decide) h3, h4⟩
theorem keepH_push (h X : List AObj) : keepH h (h ++ X) := fun i ty cs _ hi => by rw [List.getElem?_append_left (List.getElem?_eq_some_iff.1 hi).1]; exact hi
theorem keepH_set {h h' : List AObj} {id : Nat} {cs cs' : List AV} (hk : keepH h h') (hid : h[id]? = some (.cells 28 cs)) : keepH h (h'.set id (.cells 28 cs')) := fun i ty cs2 ht hi => by
  have hne : id ≠ i := by rintro rfl; rw [hid] at hi; cases hi; exact ht rfl
  rw [List.getElem?_set_ne hne]; exact hk i ty cs2 ht hi
theorem rows28 {H H' : List AObj} {cs cs' : List AV} {i : Nat} {pc : Nat → Rec} (hrow : ∀ k, k < i → ∃ c, cs[k]? = some c ∧ trk1 H c (pc k)) (hk : keepH H H') (hcs : ∀ k, k < i → cs'[k]? = cs[k]?) {c : AV} (hnew : cs'[i]? = some c) (ht : trk1 H' c (pc i)) :
    ∀ k, k < i + 1 → ∃ c, cs'[k]? = some c ∧ trk1 H' c (pc k) := by
  intro k hk2
  rcases Nat.lt_or_eq_of_le (Nat.le_of_lt_succ hk2) with h | h
  · obtain ⟨c0, h1, h2⟩ := hrow k h
    exact ⟨c0, (hcs k h).trans h1, trk1_keep h2 hk⟩
  · subst h
    exact ⟨c, hnew, ht⟩

def trkS (h : List AObj) (c : AV) (t : List Rec) : Prop := ∃ (jt cap : Nat) (cs : List AV), c = .arr jt 0 t.length cap ∧ h[jt]? = some (.cells 52 cs) ∧ t.length * 4 ≤ cs.length ∧
  ∀ (m : Nat) (r : Rec), t[m]? = some r → ∃ (jd capd : Nat) (bs : List AV), cs[m * 4]? = some (.v (.int .i64 r.R)) ∧ cs[m * 4 + 1]? = some (.lst .nil 1 []) ∧ cs[m * 4 + 2]? = some (.arr jd 0 r.data.length capd) ∧ cs[m * 4 + 3]? = some (.v (.bool r.bad)) ∧
    r.key = [] ∧ h[jd]? = some (.cells 5 bs) ∧ bs.take r.data.length = byL r.data
def arrS (h : List AObj) (x : AV) (T : List (List Rec)) : Prop := (T = [] ∧ x = .lst .nil 1 []) ∨ (T ≠ [] ∧ ∃ (q cap : Nat) (cs : List AV), x = .arr q 0 T.length cap ∧ h[q]? = some (.cells 28 cs) ∧ T.length ≤ cs.length ∧
  ∀ (k : Nat) (t : List Rec), T[k]? = some t → ∃ c, cs[k]? = some c ∧ trkS h c t)
def saveQ (p : Nat × List (List Rec) × Nat) (r : AV) (h : List AObj) : Prop := ∃ x, r = .tup [.v (.int .i64 (p.1 : Nat)), x, .v (.int .i64 (p.2.2 : Nat))] ∧ arrS h x p.2.1
theorem trk1_S {h : List AObj} {c : AV} {r : Rec} (ht : trk1 h c r) (hk : r.key = []) : trkS h c [r] := by
  obtain ⟨jt, jd, cap, bs, h1, h2, h3, h4⟩ := ht
  refine ⟨jt, 1, _, h1, h2, by simp, fun m r2 hm => ?_⟩
  have hm0 : m = 0 := by
    have := (List.getElem?_eq_some_iff.1 hm).1
    simp at this
    exact this
  subst hm0
  simp at hm
  subst hm
  exact ⟨jd, cap, bs, by simp, by simp, by simp, by simp, hk, h3, h4⟩

theorem save_callN (area : List (List Rec)) (state : List UInt8) (hl : area.length ≤ 100000) (hst : state.length ≤ 100000000) : CallW Try.prog 18 [.lst .any 1 (arL area), .lst .any 1 (byL state)] [] (saveQ (saveM area state)) := by
  refine callW_of_F Try.func18 rfl (by decide +kernel) (by simp [Try.f18]) (rs := [.tmp 4, .tmp 5, .tmp 6]) rfl ?_
  rw [show Try.f18.ntmps = 78 from rfl]
  refine W_evK [0, 1, 5] (by simp; rfl) ?_
  refine W_rK [0, 1, 5, 7] ?_
  refine runA_pre 2 (by simp; rfl) rfl ?_
  refine runA_call (by simp) (by first | (simp; done) | (simp; rfl)) (cap9_sound area.length) (by simp; rfl) ?_
  refine runA_fin (by simp; rfl) ?_
  refine W_seq ?_
  by_cases c : capN area.length = 0
  · have hR : saveM area state = (0, [], 1) := by unfold saveM; rw [if_pos c]
    refine W_evK [0, 1, 5, 7, 17] (by simp [c]; rfl) ?_
    refine W_cond rfl (fun _ => ?_) (fun h => by simp at h)
    refine W_evK [5, 4, 6] (by simp; rfl) ?_
    refine W_ret ?_
    repeat (first | refine on_ret ?_ | refine in_ret ?_)
    rw [hR]
    exact ⟨.inr rfl, .tup [.v (.int .i64 0), .lst .nil 1 [], .v (.int .i64 1)], by simp [resA], .lst .nil 1 [], rfl, .inl ⟨rfl, rfl⟩⟩
  obtain ⟨k1, k2, k3, k4⟩ := capN_pos c
  have c' : (capN area.length == 0) = false := beq_eq_false_iff_ne.2 c
  refine W_evK [0, 1, 5, 7, 17] (by simp [c']; rfl) ?_
  refine W_cond rfl (fun h => by simp at h) (fun _ => ?_)
  refine W_skip ?_
  refine W_seq ?_
  by_cases d : capN area.length < state.length
  · have hR : saveM area state = (0, [], 2) := by unfold saveM; rw [if_neg c, if_pos d]
    refine W_evK [0, 1, 5, 21] (by simp [d]; rfl) ?_
    refine W_cond rfl (fun _ => ?_) (fun h => by simp at h)
    refine W_evK [5, 4, 6] (by simp; rfl) ?_
    refine W_ret ?_
    repeat (first | refine on_ret ?_ | refine in_ret ?_)
    rw [hR]
    exact ⟨.inr rfl, .tup [.v (.int .i64 0), .lst .nil 1 [], .v (.int .i64 2)], by simp [resA], .lst .nil 1 [], rfl, .inl ⟨rfl, rfl⟩⟩
  refine W_evK [0, 1, 5, 21] (by simp [d]; rfl) ?_
  refine W_cond rfl (fun h => by simp at h) (fun _ => ?_)
  refine W_skip ?_
  refine W_rK [0, 1, 5, 8] ?_
  refine runA_pre 1 (by simp; rfl) rfl ?_
  refine runA_call (by simp) (by first | (simp; done) | (simp; rfl)) (next_sound area hl) (by simp; rfl) ?_
  refine runA_fin (by simp; rfl) ?_
  refine W_seq ?_
  obtain ⟨nx, hnx⟩ : ∃ nx, nxM area = nx := ⟨_, rfl⟩
  rw [hnx]
  by_cases e : 2147483647 < nx
  · have hR : saveM area state = (0, [], 7) := by unfold saveM; rw [if_neg c, if_neg d, if_pos (by rw [hnx]; exact e)]
    have e' : (2147483647 : Int) < nx := by omega
    refine W_evK [0, 1, 5, 8, 25] (by simp [e, e']; rfl) ?_
    refine W_cond rfl (fun _ => ?_) (fun h => by simp at h)
    refine W_evK [5, 4, 6] (by simp; rfl) ?_
    refine W_ret ?_
    repeat (first | refine on_ret ?_ | refine in_ret ?_)
    rw [hR]
    exact ⟨.inr rfl, .tup [.v (.int .i64 0), .lst .nil 1 [], .v (.int .i64 7)], by simp [resA], .lst .nil 1 [], rfl, .inl ⟨rfl, rfl⟩⟩
  have e' : ¬ (2147483647 : Int) < nx := by omega
  have hM : saveM area state = (nx % 2 * (area.length / 2), tksM (area.length / 2) nx state, 0) := by unfold saveM; rw [if_neg c, if_neg d, hnx, if_neg e]
  refine W_evK [0, 1, 5, 8, 25] (by simp [e, e']; rfl) ?_
  refine W_cond rfl (fun h => by simp at h) (fun _ => ?_)
  refine W_skip ?_
  obtain ⟨m, hm⟩ : ∃ m, area.length / 2 = m := ⟨_, rfl⟩
  have hdiv : (area.length : Int).tdiv 2 = (m : Int) := by rw [Int.tdiv_eq_ediv_of_nonneg (by omega)]; omega
  have hmw := w64 (n := (m : Int)) (by omega) (by omega)
  have hm1 : 1 ≤ m ∧ m ≤ 256 := by omega
  rw [hm] at hM
  refine W_evK [1, 5, 8, 9] (by simp [hdiv, hmw]; rfl) ?_
  refine W_seq ?_
  refine W_evK [1, 5, 8, 9, 29, 30] (by simp; rfl) ?_
  refine W_block ?_
  refine W_loop (fun k s => ∃ (i : Nat) (x : AV) (H : List AObj), k = m - i ∧ i ≤ m ∧
      ((i = 0 ∧ x = .lst .nil 1 []) ∨ (0 < i ∧ ∃ (id : Nat) (cs : List AV), x = .arr id 0 i cs.length ∧ H[id]? = some (.cells 28 cs) ∧ i ≤ cs.length ∧ cs.length ≤ maxLen ∧ ∀ k, k < i → ∃ c, cs[k]? = some c ∧ trk1 H c (pcM nx state k))) ∧
      s = ⟨78, [(1, .lst .any 1 (byL state)), (5, x), (8, .v (.int .i64 nx)), (9, .v (.int .i64 m)), (29, .v (.int .i64 m)), (30, .v (.int .i64 i))], H⟩) (k := m) ⟨0, _, [], by simp, by omega, .inl ⟨rfl, rfl⟩, by simp⟩ ?_
  rintro k s ⟨i, x, H, rfl, hi, hx, rfl⟩
  refine W_evK [1, 5, 8, 9, 29, 30, 31] (by simp; rfl) ?_
  refine W_seq ?_
  refine W_cond rfl (fun h => ?_) (fun h => ?_)
  · refine W_skip ?_
    refine W_seq ?_
    refine W_block ?_
    have hi2 : i < m := by simp at h; omega
    obtain ⟨F, hF⟩ : ∃ F, min (i * 1960) state.length = F := ⟨_, rfl⟩
    obtain ⟨G, hG⟩ : ∃ G, min (F + 1960) state.length = G := ⟨_, rfl⟩
    have hpc : pcM nx state i = ⟨1, [], be4 nx ++ (state.take G).drop F, false⟩ := by unfold pcM; rw [hF, hG]
    have w1 : IntKind.i64.wrap ((i : Int) * 1960) = ((i * 1960 : Nat) : Int) := by rw [w64 (by omega) (by omega)]; omega
    have w2 : IntKind.i64.wrap ((F : Int) + 1960) = ((F + 1960 : Nat) : Int) := by rw [w64 (by omega) (by omega)]; omega
    have f1 : (if (state.length : Int) < ((i * 1960 : Nat) : Int) then (state.length : Int) else ((i * 1960 : Nat) : Int)) = (F : Int) := by split <;> omega
    have f2 : (if (state.length : Int) < ((F + 1960 : Nat) : Int) then (state.length : Int) else ((F + 1960 : Nat) : Int)) = (G : Int) := by split <;> omega
    have f1'' : (if (state.length : Int) < (i : Int) * 1960 then (state.length : Int) else (i : Int) * 1960) = (F : Int) := by split <;> omega
    have f2'' : (if (state.length : Int) < (F : Int) + 1960 then (state.length : Int) else (F : Int) + 1960) = (G : Int) := by split <;> omega
    have f1' : (if state.length < i * 1960 then (state.length : Int) else (i : Int) * 1960) = (F : Int) := by split <;> omega
    have f2' : (if state.length < F + 1960 then (state.length : Int) else (F : Int) + 1960) = (G : Int) := by split <;> omega
    refine W_evK [1, 5, 8, 9, 29, 30, 10] (by simp; rfl) ?_
    refine W_evK [1, 5, 8, 9, 29, 30, 11] (by simp [w1, f1', f1'']; rfl) ?_
    refine W_evK [1, 5, 8, 9, 29, 30, 11, 12] (by simp [w2, f2', f2'']; rfl) ?_
    have g1 : F ≤ G := by omega
    have g2 : G ≤ state.length := by omega
    have g1' : (F : Int) ≤ G := by omega
    have g2' : (G : Int) ≤ state.length := by omega
    have hc := concat_tip [be4 nx, (state.take G).drop F] (by simp [total]; omega) (by simp)
    rw [show [be4 nx, (state.take G).drop F].flatten = be4 nx ++ (state.take G).drop F by simp] at hc
    have hpn : (be4 nx ++ (state.take G).drop F).length ≠ 0 := by rw [List.length_append, show (be4 nx).length = 4 from rfl]; omega
    obtain ⟨pd, hpd⟩ : ∃ pd, be4 nx ++ (state.take G).drop F = pd := ⟨_, rfl⟩
    rw [hpd] at hc hpc hpn
    have hcl2 : (byL pd).length = pd.length := by simp
    have w1' : AV.weakL (byL pd) = byL pd := by simp
    refine W_rfE 8 [1, 5, 8, 9, 29, 30] (k := 5) (d := 43) mx (by decide +kernel) rfl rfl rfl rfl rfl (show 43 < 78 by decide) ?_
    refine runD_pre 1 (by simp; rfl) rfl ?_
    refine runD_call (by simp) (by first | (simp; done) | (simp; rfl)) (number_sound nx) (by simp; rfl) ?_
    refine runD_fin (by simp [g1, g2, g1', g2', ← byL_drop, ← byL_take]; rfl) ?_
    refine runA_obj (f := 26) (args := [.lst (.tip 32 202) 1 [.lst .any 1 (byL (be4 nx)), .lst .any 1 (byL ((state.take G).drop F))]]) (by simp) (by first | (simp; done) | (simp; exact rfl)) (callW_thaw (e := 5) (T := 1) (sz := 1) (xs := byL pd) (fl := byL pd) (by simpa [bbL_cons] using hc) (by simp) (thwL_shal (shalL_byL38 pd)) (fun h0 => ?_) (fun capc hc1 hc2 => ?_))
    · exfalso
      have := congrArg List.length h0
      rw [hcl2] at this
      exact hpn this
    rw [hcl2, w1', Nat.mul_one]
    have htk : (byL pd ++ List.replicate (capc - pd.length) AV.any).take pd.length = byL pd := List.take_left' hcl2
    obtain ⟨bs, hbs⟩ : ∃ bs, byL pd ++ List.replicate (capc - pd.length) AV.any = bs := ⟨_, rfl⟩
    rw [hbs] at htk ⊢
    refine ⟨_, by simp; rfl, ?_⟩
    refine runA_pre 1 (by simp [setSeg]; rfl) rfl ?_
    refine runA_b (by simp) ⟨_, by simp [evSame, evBsO, catK, AV.cellsK, AV.kone, AV.koneL]; rfl, ?_⟩
    refine runA_b (by simp) ⟨_, by simp [evSame, evBsO, catK, AV.cellsK, AV.kone, AV.koneL]; rfl, ?_⟩
    have wi := w64 (n := (i : Int) + 1) (by omega) (by omega)
    have hnt : ∀ (X : List AObj), trk1 (H ++ (AObj.cells 5 bs :: AObj.cells 52 [.v (.int .i64 1), .lst .nil 1 [], .arr H.length 0 pd.length capc, .v (.bool false)] :: X)) (.arr (H.length + 1) 0 1 1) (pcM nx state i) := fun X => by
      rw [hpc]
      exact ⟨H.length + 1, H.length, capc, bs, rfl, by simp, by simp, htk⟩
    rcases hx with ⟨rfl, rfl⟩ | ⟨hi0, id, cs, rfl, hH, hc1', hc2', hrow⟩
    · refine runA_nilA (t := 23) (e := 28) (sz := 1) (by_ := 24) (m := 1) (s0 := 1) (x0 := []) (yc := [AV.arr (H.length + 1) 0 1 1]) (by simp) rfl rfl rfl rfl (by simp) (by simp [srcA]) s23 a28 z28 (by simp) (by omega) (by omega) ?_
      intro cap' h1 h2
      refine ⟨_, by simp; rfl, ?_⟩
      refine runA_fin (by simp; rfl) ?_
      refine W_evE [1, 5, 8, 9, 29, 30] (by simp [show IntKind.i64.wrap 1 = 1 from rfl]; rfl) ?_
      have hl3 : (AV.arr (H.length + 1) 0 1 1 :: repC (cap' - 1) [AV.lst .nil 4 []]).length = cap' := by simp [repC_length]; omega
      refine ⟨_, by omega, 1, .arr (H.length + 3) 0 1 cap', H ++ [AObj.cells 5 bs, AObj.cells 52 [.v (.int .i64 1), .lst .nil 1 [], .arr H.length 0 pd.length capc, .v (.bool false)], AObj.cells 28 [AV.arr (H.length + 1) 0 1 1], AObj.cells 28 (AV.arr (H.length + 1) 0 1 1 :: repC (cap' - 1) [AV.lst .nil 4 []])], rfl, by omega,
        .inr ⟨by omega, H.length + 3, AV.arr (H.length + 1) 0 1 1 :: repC (cap' - 1) [AV.lst .nil 4 []], by rw [hl3], by simp, by rw [hl3]; exact h1, by rw [hl3]; exact h2, fun k hk => ?_⟩, by simp⟩
      have : k = 0 := by omega
      subst this
      exact ⟨_, by simp, hnt _⟩
    · have hidl : id < H.length := (List.getElem?_eq_some_iff.1 hH).1
      have hH' : ∀ X, (H ++ X)[id]? = some (AObj.cells 28 cs) := fun X => by rw [List.getElem?_append_left hidl]; exact hH
      refine runA_appA (t := 23) (e := 28) (sz := 1) (by_ := 24) (id := id) (len := i) (cap := cs.length) (m := 1) (cs := cs) (yc := [AV.arr (H.length + 1) 0 1 1]) (by simp) rfl rfl rfl rfl (by simp) (by simp [srcA]) s23 a28 z28 (by simp) (by simp [hH']) (by simp) (by omega) ?_
      intro s1 x1 hqq
      rcases hqq with ⟨h1, rfl, rfl⟩ | ⟨h1, cap', h2, h3, rfl, rfl⟩
      · have hsl : (setSeg cs (i * 1) [AV.arr (H.length + 1) 0 1 1]).length = cs.length := setSeg_length _ _ _ (by simpa using h1)
        refine ⟨_, by simp; rfl, ?_⟩
        refine runA_fin (by simp; rfl) ?_
        refine W_evE [1, 5, 8, 9, 29, 30] (by simp [wi]; rfl) ?_
        refine ⟨_, by omega, i + 1, .arr id 0 (i + 1) cs.length, (H ++ [AObj.cells 5 bs, AObj.cells 52 [.v (.int .i64 1), .lst .nil 1 [], .arr H.length 0 pd.length capc, .v (.bool false)], AObj.cells 28 [AV.arr (H.length + 1) 0 1 1]]).set id (.cells 28 (setSeg cs (i * 1) [AV.arr (H.length + 1) 0 1 1])), rfl, by omega,
          .inr ⟨by omega, id, setSeg cs (i * 1) [AV.arr (H.length + 1) 0 1 1], by rw [hsl], by rw [List.getElem?_set_self (by simp; omega)], by rw [hsl]; exact h1, by rw [hsl]; exact hc2', ?_⟩, by simp⟩
        refine rows28 hrow (keepH_set (keepH_push H _) hH) (fun k hk => by rw [setSeg_get _ _ _ (by simpa using h1), if_neg (by omega)]) (c := .arr (H.length + 1) 0 1 1) (by rw [setSeg_get _ _ _ (by simpa using h1), if_pos (by simp)]; simp) ?_
        exact trk1_keep (hnt [AObj.cells 28 [AV.arr (H.length + 1) 0 1 1]]) (keepH_set (fun _ _ _ _ h => h) (hH' _))
      · refine ⟨_, by simp; rfl, ?_⟩
        refine runA_fin (by simp; rfl) ?_
        refine W_evE [1, 5, 8, 9, 29, 30] (by simp [wi]; rfl) ?_
        have hl3 : (cs.take (i * 1) ++ [AV.arr (H.length + 1) 0 1 1] ++ repC (cap' - (i + 1)) [AV.lst .nil 4 []]).length = cap' := by simp [repC_length]; omega
        refine ⟨_, by omega, i + 1, .arr (H.length + 3) 0 (i + 1) cap', H ++ [AObj.cells 5 bs, AObj.cells 52 [.v (.int .i64 1), .lst .nil 1 [], .arr H.length 0 pd.length capc, .v (.bool false)], AObj.cells 28 [AV.arr (H.length + 1) 0 1 1], AObj.cells 28 (cs.take (i * 1) ++ [AV.arr (H.length + 1) 0 1 1] ++ repC (cap' - (i + 1)) [AV.lst .nil 4 []])], rfl, by omega,
          .inr ⟨by omega, H.length + 3, cs.take (i * 1) ++ [AV.arr (H.length + 1) 0 1 1] ++ repC (cap' - (i + 1)) [AV.lst .nil 4 []], by rw [hl3], by simp, by rw [hl3]; exact h2, by rw [hl3]; exact h3, ?_⟩, by simp⟩
        exact rows28 hrow (keepH_push H _) (fun k hk => by rw [List.append_assoc, List.getElem?_append_left (by simp; omega), List.getElem?_take, if_pos (by omega)]) (c := .arr (H.length + 1) 0 1 1)
          (by rw [List.append_assoc, List.getElem?_append_right (by simp; omega)]; simp [Nat.min_eq_left hc1']) (hnt _)
  refine W_exit ?_
  have him : i = m := by simp at h; omega
  subst him
  rcases hx with ⟨h0, _⟩ | ⟨hi0, id, cs, rfl, hH, hc1, hc2, hrow⟩
  · omega
  obtain ⟨j, rfl⟩ : ∃ j, i = j + 1 := ⟨i - 1, by omega⟩
  obtain ⟨c0, hcj, jt, jd, capd, bsd, rfl, t2, t3, t4⟩ := hrow j (by omega)
  have wj : IntKind.i64.wrap (((j + 1 : Nat) : Int) - 1) = (j : Int) := by rw [w64 (by omega) (by omega)]; omega
  refine W_seqC (fun s => ∃ (x : AV) (H' : List AObj), s = ⟨78, [(5, x), (8, .v (.int .i64 nx)), (9, .v (.int .i64 ((j + 1 : Nat) : Int)))], H'⟩ ∧ arrS H' x (tksM (j + 1) nx state)) ?_ ?_
  · refine W_forget [5, 8, 9] (W_anyT mx ?_)
    refine anyT_take 0 rfl (by decide +kernel) (gives_move 5 rfl rfl rfl) rfl ?_
    refine anyT_take 1 rfl (by decide +kernel) (gives_move 9 rfl rfl rfl) rfl ?_
    refine anyT_take 2 rfl (by decide +kernel) (gives_sub 58 rfl rfl rfl) rfl ?_
    refine anyT_take 3 rfl (by decide +kernel) (gives_move 5 rfl rfl rfl) rfl ?_
    refine anyT_take 4 rfl (by decide +kernel) (gives_move 9 rfl rfl rfl) rfl ?_
    refine anyT_take 5 rfl (by decide +kernel) (gives_sub 61 rfl rfl rfl) rfl ?_
    rw [wj]
    refine anyT_take 6 rfl (by decide +kernel) (gives_index 60 62 rfl rfl rfl rfl (id2 := id) (off2 := j) (by simp; omega)) rfl ?_
    refine anyT_take 8 rfl (by decide +kernel) (gives_move 8 rfl rfl rfl) rfl ?_
    refine anyT_take 9 rfl (by decide +kernel) (gives_move 1 rfl rfl rfl) rfl ?_
    have hjl : j + 1 ≤ cs.length := by omega
    have hjj : (j : Int) < (j : Int) + 1 := by omega
    have hht := hd_tip nx state.length
    obtain ⟨hdb, hhd⟩ : ∃ hdb, hdM nx state.length = hdb := ⟨_, rfl⟩
    have hhl : hdb.length = 12 := by rw [← hhd]; rfl
    rw [hhd] at hht
    have hcl2 : (byL hdb).length = 12 := by simp [hhl]
    have w1' : AV.weakL (byL hdb) = byL hdb := by simp
    have hidl0 : id < H.length := (List.getElem?_eq_some_iff.1 hH).1
    have htk0 : tksM (j + 1) nx state = pcs nx state j ++ [[pcM nx state j, hdR nx state.length]] := by
      unfold tksM pcs
      rw [List.range_succ, List.map_append]
      congr 1
      · refine List.map_congr_left fun i hi => ?_
        rw [if_neg (by have := List.mem_range.1 hi; omega)]
      · simp
    have hfin : ∀ (capc cap' : Nat) (Y : AObj) (X : List AV), arrS ((H ++ [.cells 5 (byL hdb ++ List.replicate (capc - 12) AV.any), Y, .cells 52 (.v (.int .i64 (pcM nx state j).R) :: .lst .nil 1 [] :: .arr jd 0 (pcM nx state j).data.length capd :: .v (.bool (pcM nx state j).bad) :: .v (.int .i64 2) :: .lst .nil 1 [] :: .arr H.length 0 12 capc :: .v (.bool false) :: X)]).set id (.cells 28 (setSeg cs j [.arr (H.length + 2) 0 2 cap'])))
        (.arr id 0 (j + 1) cs.length) (tksM (j + 1) nx state) := by
      intro capc cap' Y X
      have hsl : (setSeg cs j [AV.arr (H.length + 2) 0 2 cap']).length = cs.length := setSeg_length _ _ _ (by simpa using hjl)
      rw [htk0]
      refine .inr ⟨by simp, id, cs.length, setSeg cs j [.arr (H.length + 2) 0 2 cap'], by simp, by rw [List.getElem?_set_self (by simp; omega)], by rw [hsl]; simpa using hjl, fun k t hk => ?_⟩
      have hkeep := keepH_set (cs' := setSeg cs j [.arr (H.length + 2) 0 2 cap']) (keepH_push H [.cells 5 (byL hdb ++ List.replicate (capc - 12) AV.any), Y, .cells 52 (.v (.int .i64 (pcM nx state j).R) :: .lst .nil 1 [] :: .arr jd 0 (pcM nx state j).data.length capd :: .v (.bool (pcM nx state j).bad) :: .v (.int .i64 2) :: .lst .nil 1 [] :: .arr H.length 0 12 capc :: .v (.bool false) :: X)]) hH
      rcases Nat.lt_trichotomy k j with g | g | g
      · rw [List.getElem?_append_left (by simpa using g)] at hk
        have : t = [pcM nx state k] := by
          simp [pcs, g] at hk
          exact hk.symm
        subst this
        obtain ⟨c, h1, h2⟩ := hrow k (by omega)
        refine ⟨c, ?_, trk1_S (trk1_keep h2 hkeep) rfl⟩
        rw [setSeg_get _ _ _ (by simpa using hjl), if_neg (by omega)]
        exact h1
      · subst g
        rw [List.getElem?_append_right (by simp)] at hk
        simp at hk
        subst hk
        refine ⟨.arr (H.length + 2) 0 2 cap', ?_, ?_⟩
        · rw [setSeg_get _ _ _ (by simpa using hjl), if_pos (by simp)]; simp
        · refine ⟨H.length + 2, cap', _, rfl, by rw [List.getElem?_set_ne (by omega)]; simp; rfl, by simp, fun m r hm => ?_⟩
          have hm2 := (List.getElem?_eq_some_iff.1 hm).1
          match m, hm2, hm with
          | 0, _, hm =>
            simp at hm
            subst hm
            exact ⟨jd, capd, bsd, by simp, by simp, by simp, by simp, rfl, hkeep _ _ _ (by decide) t3, t4⟩
          | 1, _, hm =>
            simp at hm
            subst hm
            refine ⟨H.length, capc, byL hdb ++ List.replicate (capc - 12) AV.any, by simp [hdR], by simp [hdR], by simp [hdR], by simp [hdR], rfl, by rw [List.getElem?_set_ne (by omega)]; simp, ?_⟩
            simp only [hdR, hhd]
            exact List.take_left' (by simp)
          | m + 2, hm2, _ => exact absurd hm2 (by simp)
      · rw [List.getElem?_eq_none (by simp; omega)] at hk
        cases hk
    have hH0 : ∀ X, (H ++ X)[id]? = some (AObj.cells 28 cs) := fun X => by rw [List.getElem?_append_left hidl0]; exact hH
    have hjtl0 : jt < H.length := (List.getElem?_eq_some_iff.1 t2).1
    have ht20 : ∀ X, (H ++ X)[jt]? = some (AObj.cells 52 [.v (.int .i64 (pcM nx state j).R), .lst .nil 1 [], .arr jd 0 (pcM nx state j).data.length capd, .v (.bool (pcM nx state j).bad)]) := fun X => by rw [List.getElem?_append_left hjtl0]; exact t2
    refine anyT_all [7, 10] (by decide +kernel) (by simp) ?_
    intro i hi
    simp only [List.mem_cons, List.not_mem_nil, or_false] at hi
    rcases hi with rfl | rfl
    · refine ⟨_, rfl, ?_⟩
      refine (show runA Try.prog _ [_] _ _ from ?_)
      refine runA_fin (by simp [hH, hH0, hcj, hjl]; rfl) ?_
      refine anyT_all [10] (by decide +kernel) (by simp) ?_
      intro i hi
      simp only [List.mem_cons, List.not_mem_nil, or_false] at hi
      subst hi
      refine ⟨_, rfl, ?_⟩
      refine (show runA Try.prog _ [_] _ _ from ?_)
      refine runA_fin (by simp; rfl) ?_
      refine anyT_all [11] (by decide +kernel) (by simp) ?_
      intro i hi
      simp only [List.mem_cons, List.not_mem_nil, or_false] at hi
      subst hi
      refine ⟨_, rfl, ?_⟩
      refine (show runA Try.prog _ [_] _ _ from ?_)
      refine runA_obj (f := 28) (args := [.v (.int .i64 nx), .v (.int .i64 (state.length : Nat))]) (by simp) (by first | (simp; done) | (simp; exact rfl)) (callW_thaw (e := 5) (T := 1) (sz := 1) (xs := byL hdb) (fl := byL hdb) (by simpa using hht) (by simp) (thwL_shal (shalL_byL38 hdb)) (fun h0 => ?_) (fun capc hc1 hc2 => ?_))
      · exfalso
        rw [h0] at hcl2
        simp at hcl2
      rw [hcl2, w1', Nat.mul_one]
      refine ⟨_, by simp; rfl, ?_⟩
      refine anyT_all [12] (by decide +kernel) (by simp) ?_
      intro i hi
      simp only [List.mem_cons, List.not_mem_nil, or_false] at hi
      subst hi
      refine ⟨_, rfl, ?_⟩
      refine (show runA Try.prog _ [_] _ _ from ?_)
      refine runA_fin (by simp [setSeg]; rfl) ?_
      refine anyT_all [13] (by decide +kernel) (by simp) ?_
      intro i hi
      simp only [List.mem_cons, List.not_mem_nil, or_false] at hi
      subst hi
      refine ⟨_, rfl, ?_⟩
      refine (show runA Try.prog _ [_] _ _ from ?_)
      refine runA_b (by simp) ⟨_, by simp [evSame, evBsO, catK, AV.cellsK, AV.kone, AV.koneL]; rfl, ?_⟩
      refine anyT_all [14] (by decide +kernel) (by simp) ?_
      intro i hi
      simp only [List.mem_cons, List.not_mem_nil, or_false] at hi
      subst hi
      refine ⟨_, rfl, ?_⟩
      refine (show runA Try.prog _ [_] _ _ from ?_)
      refine runA_appA (t := 28) (e := 52) (sz := 4) (by_ := 64) (id := jt) (len := 1) (cap := 1) (m := 1) (cs := [.v (.int .i64 (pcM nx state j).R), .lst .nil 1 [], .arr jd 0 (pcM nx state j).data.length capd, .v (.bool (pcM nx state j).bad)]) (yc := [.v (.int .i64 2), .lst .nil 1 [], .arr H.length 0 12 capc, .v (.bool false)]) (by simp) rfl rfl rfl rfl (by simp) (by simp [srcA]) s28 a52 z52 (by simp) (by simp [ht20]) (by simp) (by omega) ?_
      intro s1 x1 hqq
      rcases hqq with ⟨h1, _⟩ | ⟨h1, cap', h2, h3, rfl, rfl⟩
      · omega
      refine ⟨_, by simp; rfl, ?_⟩
      refine anyT_all [15] (by decide +kernel) (by simp) ?_
      intro i hi
      simp only [List.mem_cons, List.not_mem_nil, or_false] at hi
      subst hi
      refine ⟨_, rfl, ?_⟩
      refine (show runA Try.prog _ [_] _ _ from ?_)
      refine runA_fin (by simp [hjj]; rfl) ?_
      refine anyT_all [16] (by decide +kernel) (by simp) ?_
      intro i hi
      simp only [List.mem_cons, List.not_mem_nil, or_false] at hi
      subst hi
      refine ⟨_, rfl, ?_⟩
      refine (show runA Try.prog _ [_] _ _ from ?_)
      refine runA_fin (by simp [hH0, hjl, AV.cellsK, AV.kone]; rfl) ?_
      refine anyT_done (by decide +kernel) ?_
      exact ⟨_, _, rfl, hfin capc cap' _ _⟩
    · refine ⟨_, rfl, ?_⟩
      refine (show runA Try.prog _ [_] _ _ from ?_)
      refine runA_fin (by simp; rfl) ?_
      refine anyT_all [7, 11] (by decide +kernel) (by simp) ?_
      intro i hi
      simp only [List.mem_cons, List.not_mem_nil, or_false] at hi
      rcases hi with rfl | rfl
      · refine ⟨_, rfl, ?_⟩
        refine (show runA Try.prog _ [_] _ _ from ?_)
        refine runA_fin (by simp [hH, hH0, hcj, hjl]; rfl) ?_
        refine anyT_all [11] (by decide +kernel) (by simp) ?_
        intro i hi
        simp only [List.mem_cons, List.not_mem_nil, or_false] at hi
        subst hi
        refine ⟨_, rfl, ?_⟩
        refine (show runA Try.prog _ [_] _ _ from ?_)
        refine runA_obj (f := 28) (args := [.v (.int .i64 nx), .v (.int .i64 (state.length : Nat))]) (by simp) (by first | (simp; done) | (simp; exact rfl)) (callW_thaw (e := 5) (T := 1) (sz := 1) (xs := byL hdb) (fl := byL hdb) (by simpa using hht) (by simp) (thwL_shal (shalL_byL38 hdb)) (fun h0 => ?_) (fun capc hc1 hc2 => ?_))
        · exfalso
          rw [h0] at hcl2
          simp at hcl2
        rw [hcl2, w1', Nat.mul_one]
        refine ⟨_, by simp; rfl, ?_⟩
        refine anyT_all [12] (by decide +kernel) (by simp) ?_
        intro i hi
        simp only [List.mem_cons, List.not_mem_nil, or_false] at hi
        subst hi
        refine ⟨_, rfl, ?_⟩
        refine (show runA Try.prog _ [_] _ _ from ?_)
        refine runA_fin (by simp [setSeg]; rfl) ?_
        refine anyT_all [13] (by decide +kernel) (by simp) ?_
        intro i hi
        simp only [List.mem_cons, List.not_mem_nil, or_false] at hi
        subst hi
        refine ⟨_, rfl, ?_⟩
        refine (show runA Try.prog _ [_] _ _ from ?_)
        refine runA_b (by simp) ⟨_, by simp [evSame, evBsO, catK, AV.cellsK, AV.kone, AV.koneL]; rfl, ?_⟩
        refine anyT_all [14] (by decide +kernel) (by simp) ?_
        intro i hi
        simp only [List.mem_cons, List.not_mem_nil, or_false] at hi
        subst hi
        refine ⟨_, rfl, ?_⟩
        refine (show runA Try.prog _ [_] _ _ from ?_)
        refine runA_appA (t := 28) (e := 52) (sz := 4) (by_ := 64) (id := jt) (len := 1) (cap := 1) (m := 1) (cs := [.v (.int .i64 (pcM nx state j).R), .lst .nil 1 [], .arr jd 0 (pcM nx state j).data.length capd, .v (.bool (pcM nx state j).bad)]) (yc := [.v (.int .i64 2), .lst .nil 1 [], .arr H.length 0 12 capc, .v (.bool false)]) (by simp) rfl rfl rfl rfl (by simp) (by simp [srcA]) s28 a52 z52 (by simp) (by simp [ht20]) (by simp) (by omega) ?_
        intro s1 x1 hqq
        rcases hqq with ⟨h1, _⟩ | ⟨h1, cap', h2, h3, rfl, rfl⟩
        · omega
        refine ⟨_, by simp; rfl, ?_⟩
        refine anyT_all [15] (by decide +kernel) (by simp) ?_
        intro i hi
        simp only [List.mem_cons, List.not_mem_nil, or_false] at hi
        subst hi
        refine ⟨_, rfl, ?_⟩
        refine (show runA Try.prog _ [_] _ _ from ?_)
        refine runA_fin (by simp [hjj]; rfl) ?_
        refine anyT_all [16] (by decide +kernel) (by simp) ?_
        intro i hi
        simp only [List.mem_cons, List.not_mem_nil, or_false] at hi
        subst hi
        refine ⟨_, rfl, ?_⟩
        refine (show runA Try.prog _ [_] _ _ from ?_)
        refine runA_fin (by simp [hH0, hjl, AV.cellsK, AV.kone]; rfl) ?_
        refine anyT_done (by decide +kernel) ?_
        exact ⟨_, _, rfl, hfin capc cap' _ _⟩
      · refine ⟨_, rfl, ?_⟩
        refine (show runA Try.prog _ [_] _ _ from ?_)
        refine runA_obj (f := 28) (args := [.v (.int .i64 nx), .v (.int .i64 (state.length : Nat))]) (by simp) (by first | (simp; done) | (simp; exact rfl)) (callW_thaw (e := 5) (T := 1) (sz := 1) (xs := byL hdb) (fl := byL hdb) (by simpa using hht) (by simp) (thwL_shal (shalL_byL38 hdb)) (fun h0 => ?_) (fun capc hc1 hc2 => ?_))
        · exfalso
          rw [h0] at hcl2
          simp at hcl2
        rw [hcl2, w1', Nat.mul_one]
        refine ⟨_, by simp; rfl, ?_⟩
        refine anyT_all [7, 12] (by decide +kernel) (by simp) ?_
        intro i hi
        simp only [List.mem_cons, List.not_mem_nil, or_false] at hi
        rcases hi with rfl | rfl
        · refine ⟨_, rfl, ?_⟩
          refine (show runA Try.prog _ [_] _ _ from ?_)
          refine runA_fin (by simp [hH, hH0, hcj, hjl]; rfl) ?_
          refine anyT_all [12] (by decide +kernel) (by simp) ?_
          intro i hi
          simp only [List.mem_cons, List.not_mem_nil, or_false] at hi
          subst hi
          refine ⟨_, rfl, ?_⟩
          refine (show runA Try.prog _ [_] _ _ from ?_)
          refine runA_fin (by simp [setSeg]; rfl) ?_
          refine anyT_all [13] (by decide +kernel) (by simp) ?_
          intro i hi
          simp only [List.mem_cons, List.not_mem_nil, or_false] at hi
          subst hi
          refine ⟨_, rfl, ?_⟩
          refine (show runA Try.prog _ [_] _ _ from ?_)
          refine runA_b (by simp) ⟨_, by simp [evSame, evBsO, catK, AV.cellsK, AV.kone, AV.koneL]; rfl, ?_⟩
          refine anyT_all [14] (by decide +kernel) (by simp) ?_
          intro i hi
          simp only [List.mem_cons, List.not_mem_nil, or_false] at hi
          subst hi
          refine ⟨_, rfl, ?_⟩
          refine (show runA Try.prog _ [_] _ _ from ?_)
          refine runA_appA (t := 28) (e := 52) (sz := 4) (by_ := 64) (id := jt) (len := 1) (cap := 1) (m := 1) (cs := [.v (.int .i64 (pcM nx state j).R), .lst .nil 1 [], .arr jd 0 (pcM nx state j).data.length capd, .v (.bool (pcM nx state j).bad)]) (yc := [.v (.int .i64 2), .lst .nil 1 [], .arr H.length 0 12 capc, .v (.bool false)]) (by simp) rfl rfl rfl rfl (by simp) (by simp [srcA]) s28 a52 z52 (by simp) (by simp [ht20]) (by simp) (by omega) ?_
          intro s1 x1 hqq
          rcases hqq with ⟨h1, _⟩ | ⟨h1, cap', h2, h3, rfl, rfl⟩
          · omega
          refine ⟨_, by simp; rfl, ?_⟩
          refine anyT_all [15] (by decide +kernel) (by simp) ?_
          intro i hi
          simp only [List.mem_cons, List.not_mem_nil, or_false] at hi
          subst hi
          refine ⟨_, rfl, ?_⟩
          refine (show runA Try.prog _ [_] _ _ from ?_)
          refine runA_fin (by simp [hjj]; rfl) ?_
          refine anyT_all [16] (by decide +kernel) (by simp) ?_
          intro i hi
          simp only [List.mem_cons, List.not_mem_nil, or_false] at hi
          subst hi
          refine ⟨_, rfl, ?_⟩
          refine (show runA Try.prog _ [_] _ _ from ?_)
          refine runA_fin (by simp [hH0, hjl, AV.cellsK, AV.kone]; rfl) ?_
          refine anyT_done (by decide +kernel) ?_
          exact ⟨_, _, rfl, hfin capc cap' _ _⟩
        · refine ⟨_, rfl, ?_⟩
          refine (show runA Try.prog _ [_] _ _ from ?_)
          refine runA_fin (by simp [setSeg]; rfl) ?_
          refine anyT_all [7, 13] (by decide +kernel) (by simp) ?_
          intro i hi
          simp only [List.mem_cons, List.not_mem_nil, or_false] at hi
          rcases hi with rfl | rfl
          · refine ⟨_, rfl, ?_⟩
            refine (show runA Try.prog _ [_] _ _ from ?_)
            refine runA_fin (by simp [hH, hH0, hcj, hjl]; rfl) ?_
            refine anyT_all [13] (by decide +kernel) (by simp) ?_
            intro i hi
            simp only [List.mem_cons, List.not_mem_nil, or_false] at hi
            subst hi
            refine ⟨_, rfl, ?_⟩
            refine (show runA Try.prog _ [_] _ _ from ?_)
            refine runA_b (by simp) ⟨_, by simp [evSame, evBsO, catK, AV.cellsK, AV.kone, AV.koneL]; rfl, ?_⟩
            refine anyT_all [14] (by decide +kernel) (by simp) ?_
            intro i hi
            simp only [List.mem_cons, List.not_mem_nil, or_false] at hi
            subst hi
            refine ⟨_, rfl, ?_⟩
            refine (show runA Try.prog _ [_] _ _ from ?_)
            refine runA_appA (t := 28) (e := 52) (sz := 4) (by_ := 64) (id := jt) (len := 1) (cap := 1) (m := 1) (cs := [.v (.int .i64 (pcM nx state j).R), .lst .nil 1 [], .arr jd 0 (pcM nx state j).data.length capd, .v (.bool (pcM nx state j).bad)]) (yc := [.v (.int .i64 2), .lst .nil 1 [], .arr H.length 0 12 capc, .v (.bool false)]) (by simp) rfl rfl rfl rfl (by simp) (by simp [srcA]) s28 a52 z52 (by simp) (by simp [ht20]) (by simp) (by omega) ?_
            intro s1 x1 hqq
            rcases hqq with ⟨h1, _⟩ | ⟨h1, cap', h2, h3, rfl, rfl⟩
            · omega
            refine ⟨_, by simp; rfl, ?_⟩
            refine anyT_all [15] (by decide +kernel) (by simp) ?_
            intro i hi
            simp only [List.mem_cons, List.not_mem_nil, or_false] at hi
            subst hi
            refine ⟨_, rfl, ?_⟩
            refine (show runA Try.prog _ [_] _ _ from ?_)
            refine runA_fin (by simp [hjj]; rfl) ?_
            refine anyT_all [16] (by decide +kernel) (by simp) ?_
            intro i hi
            simp only [List.mem_cons, List.not_mem_nil, or_false] at hi
            subst hi
            refine ⟨_, rfl, ?_⟩
            refine (show runA Try.prog _ [_] _ _ from ?_)
            refine runA_fin (by simp [hH0, hjl, AV.cellsK, AV.kone]; rfl) ?_
            refine anyT_done (by decide +kernel) ?_
            exact ⟨_, _, rfl, hfin capc cap' _ _⟩
          · refine ⟨_, rfl, ?_⟩
            refine (show runA Try.prog _ [_] _ _ from ?_)
            refine runA_b (by simp) ⟨_, by simp [evSame, evBsO, catK, AV.cellsK, AV.kone, AV.koneL]; rfl, ?_⟩
            refine anyT_all [7] (by decide +kernel) (by simp) ?_
            intro i hi
            simp only [List.mem_cons, List.not_mem_nil, or_false] at hi
            subst hi
            refine ⟨_, rfl, ?_⟩
            refine (show runA Try.prog _ [_] _ _ from ?_)
            refine runA_fin (by simp [hH, hH0, hcj, hjl]; rfl) ?_
            refine anyT_all [14] (by decide +kernel) (by simp) ?_
            intro i hi
            simp only [List.mem_cons, List.not_mem_nil, or_false] at hi
            subst hi
            refine ⟨_, rfl, ?_⟩
            refine (show runA Try.prog _ [_] _ _ from ?_)
            refine runA_appA (t := 28) (e := 52) (sz := 4) (by_ := 64) (id := jt) (len := 1) (cap := 1) (m := 1) (cs := [.v (.int .i64 (pcM nx state j).R), .lst .nil 1 [], .arr jd 0 (pcM nx state j).data.length capd, .v (.bool (pcM nx state j).bad)]) (yc := [.v (.int .i64 2), .lst .nil 1 [], .arr H.length 0 12 capc, .v (.bool false)]) (by simp) rfl rfl rfl rfl (by simp) (by simp [srcA]) s28 a52 z52 (by simp) (by simp [ht20]) (by simp) (by omega) ?_
            intro s1 x1 hqq
            rcases hqq with ⟨h1, _⟩ | ⟨h1, cap', h2, h3, rfl, rfl⟩
            · omega
            refine ⟨_, by simp; rfl, ?_⟩
            refine anyT_all [15] (by decide +kernel) (by simp) ?_
            intro i hi
            simp only [List.mem_cons, List.not_mem_nil, or_false] at hi
            subst hi
            refine ⟨_, rfl, ?_⟩
            refine (show runA Try.prog _ [_] _ _ from ?_)
            refine runA_fin (by simp [hjj]; rfl) ?_
            refine anyT_all [16] (by decide +kernel) (by simp) ?_
            intro i hi
            simp only [List.mem_cons, List.not_mem_nil, or_false] at hi
            subst hi
            refine ⟨_, rfl, ?_⟩
            refine (show runA Try.prog _ [_] _ _ from ?_)
            refine runA_fin (by simp [hH0, hjl, AV.cellsK, AV.kone]; rfl) ?_
            refine anyT_done (by decide +kernel) ?_
            exact ⟨_, _, rfl, hfin capc cap' _ _⟩
  rintro _ ⟨x, H', rfl, hx⟩
  have m1 : (nx : Int).tmod 2 = ((nx % 2 : Nat) : Int) := by rw [Int.tmod_eq_emod_of_nonneg (by omega)]; omega
  obtain ⟨pr, hpr⟩ : ∃ pr, nx % 2 = pr := ⟨_, rfl⟩
  rw [hpr] at m1 hM
  have hprl : pr < 2 := by omega
  obtain ⟨J, hJ⟩ : ∃ J, j + 1 = J := ⟨_, rfl⟩
  rw [hJ] at hx hM ⊢
  have hml : pr * J ≤ 1 * J := Nat.mul_le_mul_right _ (by omega)
  have m2 : IntKind.i64.wrap ((pr : Int) * (J : Int)) = ((pr * J : Nat) : Int) := by
    rw [← Int.natCast_mul]
    exact w64 (by omega) (by omega)
  rw [hM]
  rcases hx with ⟨h0, rfl⟩ | ⟨h0, q, cap, cs2, rfl, a1, a2, a3⟩
  · refine W_evK [5, 4, 6] (by simp [m1, m2, -Int.natCast_mul]; rfl) ?_
    refine W_ret ?_
    repeat (first | refine on_ret ?_ | refine in_ret ?_)
    exact ⟨.inr rfl, .tup [.v (.int .i64 ((pr * J : Nat) : Int)), .lst .nil 1 [], .v (.int .i64 0)], by simp [resA], _, rfl, .inl ⟨h0, rfl⟩⟩
  · refine W_evK [5, 4, 6] (by simp [m1, m2, -Int.natCast_mul]; rfl) ?_
    refine W_ret ?_
    repeat (first | refine on_ret ?_ | refine in_ret ?_)
    exact ⟨.inr rfl, .tup [.v (.int .i64 ((pr * J : Nat) : Int)), .arr q 0 (tksM J nx state).length cap, .v (.int .i64 0)], by simp [resA], _, rfl, .inr ⟨h0, q, cap, cs2, rfl, a1, a2, a3⟩⟩
end Go.AM
