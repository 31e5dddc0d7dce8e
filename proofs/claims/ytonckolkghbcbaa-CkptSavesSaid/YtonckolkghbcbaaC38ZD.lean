/- Spoil: what Save handed back is written. -/
import Derived.Test.YtonckolkghbcbaaC38S
import Derived.Test.YtonckolkghbcbaaAmC
namespace Go.AM
open Go.RowKit Go.Proofs
set_option linter.unusedSimpArgs false
set_option linter.unusedVariables false
set_option maxHeartbeats 2000000

def recW (h : List AObj) (cs : List AV) (m : Nat) : Prop := ∃ (R : Int) (jd len cap : Nat) (bs : List AV), cs[m * 4]? = some (.v (.int .i64 R)) ∧ cs[m * 4 + 2]? = some (.arr jd 0 len cap) ∧ h[jd]? = some (.cells 5 bs) ∧ len ≤ bs.length ∧ len ≤ 1000000000000 ∧
  ∀ i, i < len → ∃ v : Int, bs[i]? = some (.v (.int .u8 v))
def trkW (h : List AObj) (c : AV) : Prop := ∃ (jt n cap : Nat) (cs : List AV), c = .arr jt 0 n cap ∧ h[jt]? = some (.cells 52 cs) ∧ n * 4 ≤ cs.length ∧ n ≤ 1000000000000 ∧ ∀ m, m < n → recW h cs m
def spT (h : List AObj) (q : Nat) (cs : List AV) (n : Nat) : Prop := h[q]? = some (.cells 28 cs) ∧ n ≤ cs.length ∧ ∀ k, k < n → ∃ c, cs[k]? = some c ∧ trkW h c

def okStep (h h' : List AObj) : Prop := (∀ (j : Nat) (cs : List AV), h[j]? = some (.cells 28 cs) → h'[j]? = some (.cells 28 cs)) ∧
  (∀ (j : Nat) (bs : List AV), h[j]? = some (.cells 5 bs) → ∃ bs', h'[j]? = some (.cells 5 bs') ∧ bs'.length = bs.length ∧ ∀ (i : Nat) (v : Int), bs[i]? = some (.v (.int .u8 v)) → ∃ v' : Int, bs'[i]? = some (.v (.int .u8 v'))) ∧
  ∀ (j : Nat) (cs : List AV), h[j]? = some (.cells 52 cs) → ∃ cs', h'[j]? = some (.cells 52 cs') ∧ cs'.length = cs.length ∧ (∀ (i : Nat) (v : Int), cs[i]? = some (.v (.int .i64 v)) → ∃ v' : Int, cs'[i]? = some (.v (.int .i64 v'))) ∧
    ∀ (i a b c d : Nat), cs[i]? = some (AV.arr a b c d) → cs'[i]? = some (.arr a b c d)
theorem spT_step {h h' : List AObj} {q n : Nat} {cs : List AV} (hs : spT h q cs n) (ho : okStep h h') : spT h' q cs n := by
  obtain ⟨h1, h2, h3⟩ := hs
  refine ⟨ho.1 _ _ h1, h2, fun k hk => ?_⟩
  obtain ⟨c, k1, jt, m, cap, cs5, k2, k3, k4, k5, k6⟩ := h3 k hk
  obtain ⟨cs', p1, p2, p3, p4⟩ := ho.2.2 _ _ k3
  refine ⟨c, k1, jt, m, cap, cs', k2, p1, by omega, k5, fun i hi => ?_⟩
  obtain ⟨R, jd, len, cap2, bs, r1, r2, r3, r4, r5, r6⟩ := k6 i hi
  obtain ⟨bs', q1, q2, q3⟩ := ho.2.1 _ _ r3
  obtain ⟨R', hR'⟩ := p3 _ _ r1
  exact ⟨R', jd, len, cap2, bs', hR', p4 _ _ _ _ _ r2, q1, by omega, r5, fun i hi => by obtain ⟨v, hv⟩ := r6 i hi; exact q3 i v hv⟩
theorem ok5 {h : List AObj} {j i : Nat} {bs : List AV} {v : Int} (hj : h[j]? = some (.cells 5 bs)) (hi : i + 1 ≤ bs.length) : okStep h (h.set j (.cells 5 (setSeg bs i [.v (.int .u8 v)]))) := by
  have hjl := (List.getElem?_eq_some_iff.1 hj).1
  refine ⟨fun k cs hk => ?_, fun k bs2 hk => ?_, fun k cs hk => ?_⟩
  · have : j ≠ k := by rintro rfl; rw [hj] at hk; cases hk
    rw [List.getElem?_set_ne this]; exact hk
  · by_cases e : j = k
    · subst e
      rw [hj] at hk
      cases hk
      refine ⟨_, List.getElem?_set_self hjl, setSeg_length _ _ _ (by simpa using hi), fun i2 v2 h2 => ?_⟩
      rw [setSeg_get _ _ _ (by simpa using hi)]
      split
      · rename_i hh
        simp at hh
        have : i2 = i := by omega
        subst this
        exact ⟨v, by simp⟩
      · exact ⟨v2, h2⟩
    · exact ⟨bs2, by rw [List.getElem?_set_ne e]; exact hk, rfl, fun i v h => ⟨v, h⟩⟩
  · have : j ≠ k := by rintro rfl; rw [hj] at hk; cases hk
    exact ⟨cs, by rw [List.getElem?_set_ne this]; exact hk, rfl, fun i v h => ⟨v, h⟩, fun _ _ _ _ _ h => h⟩
theorem ok52 {h : List AObj} {j i : Nat} {cs : List AV} {v v0 : Int} (hj : h[j]? = some (.cells 52 cs)) (hi : i + 1 ≤ cs.length) (h0 : cs[i]? = some (.v (.int .i64 v0))) : okStep h (h.set j (.cells 52 (setSeg cs i [.v (.int .i64 v)]))) := by
  have hjl := (List.getElem?_eq_some_iff.1 hj).1
  refine ⟨fun k cs2 hk => ?_, fun k bs2 hk => ?_, fun k cs2 hk => ?_⟩
  · have : j ≠ k := by rintro rfl; rw [hj] at hk; cases hk
    rw [List.getElem?_set_ne this]; exact hk
  · have : j ≠ k := by rintro rfl; rw [hj] at hk; cases hk
    exact ⟨bs2, by rw [List.getElem?_set_ne this]; exact hk, rfl, fun i v h => ⟨v, h⟩⟩
  · by_cases e : j = k
    · subst e
      rw [hj] at hk
      cases hk
      refine ⟨_, List.getElem?_set_self hjl, setSeg_length _ _ _ (by simpa using hi), fun i2 v2 h2 => ?_, fun i2 a b c d h2 => ?_⟩
      · rw [setSeg_get _ _ _ (by simpa using hi)]
        split
        · rename_i hh
          simp at hh
          have : i2 = i := by omega
          subst this
          exact ⟨v, by simp⟩
        · exact ⟨v2, h2⟩
      · rw [setSeg_get _ _ _ (by simpa using hi), if_neg ?_]
        · exact h2
        · rintro hh
          simp at hh
          have : i2 = i := by omega
          subst this
          rw [h0] at h2
          cases h2
    · exact ⟨cs2, by rw [List.getElem?_set_ne e]; exact hk, rfl, fun i v h => ⟨v, h⟩, fun _ _ _ _ _ h => h⟩

theorem spoilT_callW (h : List AObj) (q n cap : Nat) (cs : List AV) (hs : spT h q cs n) (hn : n ≤ 1000000000000) : CallW Try.prog 20 [.arr q 0 n cap] h fun r _ => r = .tup [] := by
  refine callW_of_F Try.func20 rfl (by decide +kernel) (by simp [Try.f20]) (rs := []) rfl ?_
  rw [show Try.f20.ntmps = 57 from rfl]
  refine W_evK [0, 2] (by simp; rfl) ?_
  refine W_block ?_
  refine W_loop (fun k s => ∃ (i : Nat) (H : List AObj), k = n - i ∧ i ≤ n ∧ spT H q cs n ∧ s = ⟨57, [(0, .arr q 0 n cap), (2, .v (.int .i64 i))], H⟩) (k := n) ⟨0, h, by simp, by omega, hs, by simp⟩ ?_
  rintro k s ⟨i, H, rfl, hi, hsp, rfl⟩
  refine W_seq ?_
  by_cases c : i < n
  rotate_left
  · refine W_evK [0, 2, 8] (by simp [c]; rfl) ?_
    refine W_cond rfl (fun h => by simp at h) (fun h => ?_)
    refine W_exit ?_
    exact ⟨.inl rfl, .tup [], rfl, rfl⟩
  have ci : (i : Int) < n := by omega
  have wi := w64 (n := (i : Int) + 1) (by omega) (by omega)
  refine W_evK [0, 2, 8] (by simp [c]; rfl) ?_
  refine W_cond rfl (fun h => ?_) (fun h => by simp at h)
  refine W_skip ?_
  refine W_seq ?_
  refine W_block ?_
  refine W_evK [0, 2, 3] (by simp; rfl) ?_
  refine W_block ?_
  obtain ⟨c0, r1, jt, T, capt, cs0, rfl, r2, r3, r5, r4⟩ := hsp.2.2 i c
  have hcl : i + 1 ≤ cs.length := by have := hsp.2.1; omega
  refine W_loop (fun k s => ∃ (m : Nat) (H : List AObj), k = T - m ∧ m ≤ T ∧ spT H q cs n ∧
    s = ⟨57, [(0, .arr q 0 n cap), (2, .v (.int .i64 i)), (3, .v (.int .i64 m))], H⟩) (k := T) ⟨0, H, by simp, by omega, hsp, by simp⟩ ?_
  clear hsp r2 r3 r4 cs0
  rintro k s ⟨m, H, rfl, hm, hsp, rfl⟩
  have r0 := hsp.1
  refine W_seq ?_
  by_cases c2 : m < T
  rotate_left
  · refine W_evK [0, 2, 3, 17] (by simp [c, ci, c2, r0, r1, hcl]; rfl) ?_
    refine W_cond rfl (fun h => by simp at h) (fun h => ?_)
    refine W_exit ?_
    refine W_evE [0, 2] (by simp [wi]; rfl) ?_
    exact ⟨_, by omega, i + 1, H, rfl, by omega, hsp, by simp⟩
  have cm : (m : Int) < T := by omega
  have wm := w64 (n := (m : Int) + 1) (by omega) (by omega)
  refine W_evK [0, 2, 3, 17] (by simp [c, ci, c2, r0, r1, hcl]; rfl) ?_
  refine W_cond rfl (fun h => ?_) (fun h => by simp at h)
  refine W_skip ?_
  refine W_seq ?_
  refine W_block ?_
  obtain ⟨c1, e1, jt', T', capt', cs5, e2, e3, e4, e5, e6⟩ := hsp.2.2 i c
  rw [r1] at e1
  cases e1
  cases e2
  obtain ⟨R, jd, len, capd, bs, f1, f2, f3, f4, f5, f6⟩ := e6 m c2
  have hml : m * 4 + 1 ≤ cs5.length := by omega
  refine W_rK [0, 2, 3] ?_
  refine runA_pre 6 (by simp [c, ci, c2, cm, r0, r1, hcl]; rfl) rfl ?_
  refine runA_fin (by simp [c, ci, c2, cm, r0, r1, hcl, e3, f1, hml]; rfl) ?_
  have hst := ok52 (v := IntKind.i64.wrap (R + 1)) e3 hml f1
  have hsp1 := spT_step hsp hst
  obtain ⟨H1, hH1⟩ : ∃ H1, H.set jt (.cells 52 (setSeg cs5 (m * 4) [.v (.int .i64 (IntKind.i64.wrap (R + 1)))])) = H1 := ⟨_, rfl⟩
  rw [hH1] at hsp1
  have hH1' : keepS [0, 2, 3] (⟨57, [(0, .arr q 0 n cap), (2, .v (.int .i64 i)), (3, .v (.int .i64 m))], H.set jt (.cells 52 (setSeg cs5 (m * 4) [.v (.int .i64 (IntKind.i64.wrap (R + 1)))]))⟩ : St) = ⟨57, [(0, .arr q 0 n cap), (2, .v (.int .i64 i)), (3, .v (.int .i64 m))], H1⟩ := by rw [hH1]; rfl
  refine W_evK [0, 2, 3, 4] (s' := ⟨57, [(0, .arr q 0 n cap), (2, .v (.int .i64 i)), (3, .v (.int .i64 m)), (4, .v (.int .i64 0))], H1⟩) (by simp [hH1]) ?_
  refine W_block ?_
  clear hst hH1'
  have r0' := hsp1.1
  obtain ⟨c1, e1', jt', T', capt', cs6, e2', e3', e4', e5', e6'⟩ := hsp1.2.2 i c
  rw [r1] at e1'
  cases e1'
  cases e2'
  obtain ⟨R', jd', len', capd', bs', f1', f2', f3', f4', f5', f6'⟩ := e6' m c2
  have hml2 : m * 4 + 2 + 1 ≤ cs6.length := by omega
  refine W_loop (fun k s => ∃ (u : Nat) (H : List AObj) (bs : List AV), k = len' - u ∧ u ≤ len' ∧ spT H q cs n ∧ H[jt]? = some (.cells 52 cs6) ∧ H[jd']? = some (.cells 5 bs) ∧ len' ≤ bs.length ∧ (∀ i, i < len' → ∃ v : Int, bs[i]? = some (.v (.int .u8 v))) ∧
    s = ⟨57, [(0, .arr q 0 n cap), (2, .v (.int .i64 i)), (3, .v (.int .i64 m)), (4, .v (.int .i64 u))], H⟩) (k := len') ⟨0, H1, bs', by simp, by omega, hsp1, e3', f3', f4', f6', by simp⟩ ?_
  rintro k s ⟨u, H2, b2, rfl, hu, hsp2, g1, g2, g3, g4, rfl⟩
  have r02 := hsp2.1
  refine W_seq ?_
  by_cases c3 : u < len'
  rotate_left
  · refine W_evK [0, 2, 3, 4, 41] (by simp [c, ci, c2, cm, c3, r02, r1, hcl, g1, f2', hml2]; rfl) ?_
    refine W_cond rfl (fun h => by simp at h) (fun h => ?_)
    refine W_exit ?_
    refine W_evE [0, 2, 3] (by simp [wm]; rfl) ?_
    exact ⟨_, by omega, m + 1, H2, rfl, by omega, hsp2, by simp⟩
  have cu : (u : Int) < len' := by omega
  have wu := w64 (n := (u : Int) + 1) (by omega) (by omega)
  obtain ⟨v, hv⟩ := g4 u c3
  have hul : u + 1 ≤ b2.length := by omega
  refine W_evK [0, 2, 3, 4, 41] (by simp [c, ci, c2, cm, c3, r02, r1, hcl, g1, f2', hml2]; rfl) ?_
  refine W_cond rfl (fun h => ?_) (fun h => by simp at h)
  refine W_skip ?_
  refine W_seq ?_
  refine W_block ?_
  refine W_rE [0, 2, 3, 4] ?_
  refine runA_pre 6 (by simp [c, ci, c2, cm, r02, r1, hcl]; rfl) rfl ?_
  refine runA_fin (by simp [c, ci, c2, cm, c3, cu, r02, r1, hcl, g1, f2', hml2, g2, hv, hul]; rfl) ?_
  refine W_evE [0, 2, 3, 4] (by simp [wu]; rfl) ?_
  have hjl := (List.getElem?_eq_some_iff.1 g2).1
  have hne : jd' ≠ jt := by rintro rfl; rw [g1] at g2; cases g2
  refine ⟨_, by omega, u + 1, _, _, rfl, by omega, spT_step hsp2 (ok5 (v := IntKind.u8.wrap (v + 1)) g2 hul), by rw [List.getElem?_set_ne hne]; exact g1, List.getElem?_set_self hjl, by rw [setSeg_length _ _ _ (by simpa using hul)]; exact g3, fun i2 hi2 => ?_, by simp⟩
  rw [setSeg_get _ _ _ (by simpa using hul)]
  split
  · rename_i hh
    simp at hh
    have : i2 = u := by omega
    subst this
    exact ⟨_, by simp; rfl⟩
  · exact g4 i2 hi2
end Go.AM
