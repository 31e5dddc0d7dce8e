/- The specification's Copy, whose result may be written. -/
import Derived.Test.YtknlmgnfflfpeaaC23H
import Derived.Test.YtknlmgnfflfpeaaC23D
import Derived.Test.YtknlmgnfflfpeaaAmC
namespace Go.AM
open Go.RowKit Go.Proofs
set_option linter.unusedSimpArgs false
set_option linter.unusedVariables false
set_option maxHeartbeats 1000000

def trC (t : List Rec) : List AV := (t.map recC).flatten
@[simp] theorem trC_nil : trC [] = [] := rfl
theorem trC_cons (r : Rec) (t : List Rec) : trC (r :: t) = recC r ++ trC t := rfl
theorem trC_append (s t : List Rec) : trC (s ++ t) = trC s ++ trC t := by simp [trC]
theorem trC_length (t : List Rec) : (trC t).length = 4 * t.length := by
  induction t with
  | nil => rfl
  | cons r t ih => rw [trC_cons, List.length_append, ih]; simp [recC]; omega
theorem catK_trL (t : List Rec) : catK 4 (trL t) = some (trC t) := by
  induction t with
  | nil => rfl
  | cons r t ih =>
    rw [trL_cons, catK, ih]
    simp [AV.cellsK, AV.koneL, AV.kone, trC_cons, recC]
@[simp] theorem weakL_trC (t : List Rec) : AV.weakL (trC t) = trC t := by
  induction t with
  | nil => rfl
  | cons r t ih => rw [trC_cons, weakL_append, ih]; rfl
@[simp] theorem rfL_trC (t : List Rec) : AV.rfL (trC t) = true := by
  induction t with
  | nil => rfl
  | cons r t ih => rw [trC_cons, rfL_append, ih]; simp [recC, AV.rfL, AV.rf]
@[simp] theorem koneL_trC (t : List Rec) : AV.koneL (trC t) = true := by
  induction t with
  | nil => rfl
  | cons r t ih => rw [trC_cons, koneL_app, ih]; rfl
theorem chunk_trC (t : List Rec) (rs : List AV) : chunk true 4 t.length (trC t ++ rs) = trL t := by
  induction t with
  | nil => rfl
  | cons r t ih =>
    rw [trC_cons, trL_cons]
    show AV.agg ((recC r ++ trC t ++ rs).take 4) :: chunk true 4 t.length ((recC r ++ trC t ++ rs).drop 4) = _
    rw [List.append_assoc, show (recC r ++ (trC t ++ rs)).drop 4 = trC t ++ rs from rfl, ih]
    rfl
theorem trC_get {t : List Rec} {k : Nat} {r : Rec} (h : t[k]? = some r) (rs : List AV) (j : Nat) (hj : j < 4) : (trC t ++ rs)[k * 4 + j]? = (recC r)[j]? := by
  induction t generalizing k with
  | nil => simp at h
  | cons x t ih =>
    cases k with
    | zero =>
      simp at h
      subst h
      rw [trC_cons, List.append_assoc, Nat.zero_mul, Nat.zero_add, List.getElem?_append_left (by simpa [recC] using hj)]
    | succ k =>
      have := ih (k := k) (by simpa using h)
      rw [trC_cons, List.append_assoc, List.getElem?_append_right (by simp [recC]; omega), ← this]
      congr 1
      simp [recC]
      omega
theorem setSeg_skip (a xs : List AV) (k : Nat) (ys : List AV) : setSeg (a ++ xs) (a.length + k) ys = a ++ setSeg xs k ys := by
  unfold setSeg
  rw [List.take_append, List.drop_append, List.take_of_length_le (by omega), List.drop_eq_nil_of_le (by omega)]
  simp only [List.append_assoc, List.nil_append, Nat.add_sub_cancel_left]
  rw [show a.length + k + ys.length - a.length = k + ys.length by omega]

theorem trC_set {t : List Rec} {k : Nat} {r r' : Rec} (h : t[k]? = some r) (rs : List AV) (j : Nat) (ys : List AV) (hr : setSeg (recC r) j ys = recC r') (hj : j + ys.length ≤ 4) : setSeg (trC t ++ rs) (k * 4 + j) ys = trC (t.set k r') ++ rs := by
  induction t generalizing k with
  | nil => simp at h
  | cons x t ih =>
    cases k with
    | zero =>
      simp at h
      subst h
      have e : setSeg (recC x ++ (trC t ++ rs)) j ys = setSeg (recC x) j ys ++ (trC t ++ rs) := by
        have h4 : (recC x).length = 4 := rfl
        unfold setSeg
        rw [List.take_append_of_le_length (by omega), List.drop_append_of_le_length (by omega)]
        simp only [List.append_assoc]
      rw [trC_cons, List.append_assoc, Nat.zero_mul, Nat.zero_add, e, hr, List.set_cons_zero, trC_cons, List.append_assoc]
    | succ k =>
      rw [trC_cons, List.append_assoc, show (k + 1) * 4 + j = (recC x).length + (k * 4 + j) by simp [recC]; omega, setSeg_skip, ih (by simpa using h), List.set_cons_succ, trC_cons, List.append_assoc]

def recT (r : Rec) : List AV := [.v (.int .i64 r.R), .lst (.tip 5 33) 1 (byL r.key), .lst (.tip 5 33) 1 (byL r.data), .v (.bool r.bad)]
def trT (t : List Rec) : List AV := (t.map recT).flatten
theorem trT_cons (r : Rec) (t : List Rec) : trT (r :: t) = recT r ++ trT t := rfl
theorem trT_append (s t : List Rec) : trT (s ++ t) = trT s ++ trT t := by simp [trT]
theorem trT_one (r : Rec) : trT [r] = recT r := by simp [trT]
theorem trT_length (t : List Rec) : (trT t).length = 4 * t.length := by
  induction t with
  | nil => rfl
  | cons r t ih => rw [trT_cons, List.length_append, ih]; simp [recT]; omega
theorem weakL_trT (t : List Rec) : AV.weakL (trT t) = trC t := by
  induction t with
  | nil => rfl
  | cons r t ih => rw [trT_cons, weakL_append, ih]; rfl
theorem trT_get {t : List Rec} {k : Nat} {r : Rec} (h : t[k]? = some r) (rs : List AV) (j : Nat) (hj : j < 4) : (trT t ++ rs)[k * 4 + j]? = (recT r)[j]? := by
  induction t generalizing k with
  | nil => simp at h
  | cons x t ih =>
    cases k with
    | zero =>
      simp at h
      subst h
      rw [trT_cons, List.append_assoc, Nat.zero_mul, Nat.zero_add, List.getElem?_append_left (by simpa [recT] using hj)]
    | succ k =>
      have := ih (k := k) (by simpa using h)
      rw [trT_cons, List.append_assoc, List.getElem?_append_right (by simp [recT]; omega), ← this]
      congr 1
      simp [recT]
      omega
mutual
theorem rf_weak : (x : AV) → x.weak.rf = x.rf
  | .lst _ _ _ => rfl
  | .agg xs => by simp only [AV.weak, AV.rf, rfL_weak xs]
  | .tup xs => by simp only [AV.weak, AV.rf, rfL_weak xs]
  | .any | .v _ | .ro _ | .loc _ _ | .arr _ _ _ _ | .fn _ _ _ | .mp _ | .yld _ => rfl
theorem rfL_weak : (xs : List AV) → AV.rfL (AV.weakL xs) = AV.rfL xs
  | [] => rfl
  | x :: xs => by simp only [AV.weakL, AV.rfL, rf_weak x, rfL_weak xs]
end
theorem weakL_take (xs : List AV) (n : Nat) : AV.weakL (xs.take n) = (AV.weakL xs).take n := by
  apply List.ext_getElem?
  intro j
  rw [weakL_get, List.getElem?_take, List.getElem?_take]
  split
  · rw [weakL_get]
  · rfl
theorem weakL_drop (xs : List AV) (n : Nat) : AV.weakL (xs.drop n) = (AV.weakL xs).drop n := by
  apply List.ext_getElem?
  intro j
  rw [weakL_get, List.getElem?_drop, List.getElem?_drop, weakL_get]
theorem weakL_setSeg (cs : List AV) (off : Nat) (ys : List AV) : AV.weakL (setSeg cs off ys) = setSeg (AV.weakL cs) off (AV.weakL ys) := by
  unfold setSeg
  rw [weakL_append, weakL_append, weakL_take, weakL_drop, weakL_length]

theorem oneT_sound (r : Rec) (hr : recSm r) : Sound Try.prog 36 [recA r] (.agg [.v (.int .i64 r.R), .lst (.tip 5 1) 1 (byL r.key), .lst (.tip 5 1) 1 (byL r.data), .v (.bool r.bad)]) := by
  refine sound_of_U Try.func36 rfl (by decide +kernel) (by simp [Try.f36]) rfl rfl (rs := [.cell 2 49]) rfl ?_
  rw [show Try.f36.ntmps = 14 from rfl]
  obtain ⟨h1, h2⟩ := hr
  have b1 : r.key.length ≤ 140737488355328 := by omega
  have b2 : r.data.length ≤ 140737488355328 := by omega
  refine W_evK [1, 2] (by simp; rfl) ?_
  refine W_evK [1, 2] (by simp [b1, setSeg]; rfl) ?_
  refine W_evK [1, 2] (by simp [b2, setSeg]; rfl) ?_
  refine W_evK [2] (by simp [setSeg]; rfl) ?_
  refine W_ret ?_
  repeat (first | refine on_ret ?_ | refine in_ret ?_)
  exact ⟨.agg [.v (.int .i64 r.R), .lst (.tip 5 13) 1 (byL r.key), .lst (.tip 5 23) 1 (byL r.data), .v (.bool r.bad)], by simp [retQ], .norm fun T => by simp⟩

theorem app_stepT {s s1 : St} {x1 : AV} {q j cap : Nat} {T : List Rec} {r : Rec} {rs zc : List AV} (hq : s.h[q]? = some (.cells 49 (trT T ++ rs))) (hj : T.length = j) (hrs : rs.length = (cap - j) * 4) (hz : zc.length = 4) (hm : cap ≤ maxLen)
    (h : appQ0 s 49 4 q j cap 1 (recT r) (trT T ++ rs) zc s1 x1) :
    ∃ q' cap' rs' h', x1 = .arr q' 0 (j + 1) cap' ∧ s1 = ⟨s.n, s.fr, h'⟩ ∧ h'[q']? = some (.cells 49 (trT (T ++ [r]) ++ rs')) ∧ rs'.length = (cap' - (j + 1)) * 4 ∧ j + 1 ≤ cap' ∧ cap' ≤ maxLen ∧
      (q' = q ∨ q' = s.h.length) ∧ (h' = s.h.set q (.cells 49 (trT (T ++ [r]) ++ rs')) ∨ ∃ o, h' = s.h ++ [o]) := by
  have hql : q < s.h.length := (List.getElem?_eq_some_iff.1 hq).1
  have hTl := trT_length T
  rcases h with ⟨h1, rfl, rfl⟩ | ⟨h1, cap', h2, h3, rfl, rfl⟩
  · have e : setSeg (trT T ++ rs) (j * 4) (recT r) = trT (T ++ [r]) ++ rs.drop 4 := by
      rw [show j * 4 = (trT T).length + 0 by omega, setSeg_skip, trT_append, trT_one, List.append_assoc]
      simp [setSeg, recT]
    rw [e]
    exact ⟨q, cap, rs.drop 4, _, rfl, rfl, List.getElem?_set_self hql, by simp; omega, h1, hm, .inl rfl, .inl rfl⟩
  · have e : (trT T ++ rs).take (j * 4) ++ recT r = trT (T ++ [r]) := by
      rw [show j * 4 = (trT T).length by omega, List.take_append_of_le_length (Nat.le_refl _), List.take_of_length_le (Nat.le_refl _), trT_append, trT_one]
    rw [e]
    exact ⟨s.h.length, cap', repC (cap' - (j + 1)) zc, _, rfl, rfl, by simp, by rw [repC_length, hz], h2, h3, .inr rfl, .inr ⟨_, rfl⟩⟩

theorem copy_callW (t : List Rec) (ht : trSm t) (hne : t ≠ []) (H0 : List AObj) : CallW Try.prog 40 [.lst .any 4 (trL t)] H0 fun r h' =>
    ∃ q cq rs G, r = .arr q 0 t.length cq ∧ h' = H0 ++ G ∧ h'[q]? = some (.cells 49 (trT t ++ rs)) ∧ rs.length = (cq - t.length) * 4 ∧ t.length ≤ cq := by
  refine callW_of_F Try.func40 rfl (by decide +kernel) (by simp [Try.f40]) (rs := [.tmp 2]) rfl ?_
  rw [show Try.f40.ntmps = 20 from rfl]
  have h6 := ht.1
  have htp : 0 < t.length := List.length_pos_iff.2 hne
  refine W_evK [0] (by simp; rfl) ?_
  refine W_evK [0, 3] (by simp; rfl) ?_
  refine W_seq ?_
  refine W_evK [0, 3, 4] (by simp; rfl) ?_
  refine W_block ?_
  refine W_loop (fun k s => ∃ (i : Nat) (x : AV) (H : List AObj), k = t.length - i ∧ i ≤ t.length ∧ ((i = 0 ∧ x = .lst .nil 4 [] ∧ H = H0) ∨
      (0 < i ∧ ∃ q cq rs G, x = .arr q 0 i cq ∧ H = H0 ++ G ∧ H0.length ≤ q ∧ H[q]? = some (.cells 49 (trT (t.take i) ++ rs)) ∧ rs.length = (cq - i) * 4 ∧ i ≤ cq ∧ cq ≤ maxLen)) ∧
    s = ⟨20, [(0, .lst .any 4 (trL t)), (3, x), (4, .v (.int .i64 i))], H⟩) (k := t.length) ⟨0, _, _, by simp, by omega, .inl ⟨rfl, rfl, rfl⟩, by simp⟩ ?_
  rintro k s ⟨i, x, H, rfl, hi, hx, rfl⟩
  refine W_seq ?_
  by_cases c : i < t.length
  rotate_left
  · refine W_evK [0, 3, 4, 8] (by simp [c]; rfl) ?_
    refine W_cond rfl (fun h => by simp at h) (fun h => ?_)
    refine W_exit ?_
    have hie : i = t.length := by omega
    subst hie
    rw [List.take_length] at hx
    rcases hx with ⟨h0, _, _⟩ | ⟨h0, q, cq, rs, G, rfl, rfl, hqh, hq, hrs, hic, hcm⟩
    · omega
    refine W_evK [2] (by simp; rfl) ?_
    refine W_ret ?_
    repeat (first | refine on_ret ?_ | refine in_ret ?_)
    exact ⟨.inr rfl, _, by simp, q, cq, rs, G, rfl, rfl, hq, hrs, hic⟩
  have ci : (i : Int) < t.length := by omega
  obtain ⟨r, hti⟩ : ∃ r, t[i]? = some r := ⟨_, List.getElem?_eq_getElem c⟩
  have ht2 : t[i]'c = r := by rw [List.getElem?_eq_getElem c] at hti; exact Option.some.inj hti
  have hrs := ht.2 r (List.mem_of_getElem? hti)
  have wi := w64 (n := (i : Int) + 1) (by omega) (by omega)
  have htk : t.take (i + 1) = t.take i ++ [r] := by rw [List.take_add_one, hti]; rfl
  have htl : (t.take i).length = i := by simp; omega
  refine W_evK [0, 3, 4, 8] (by simp [c]; rfl) ?_
  refine W_cond rfl (fun h => ?_) (fun h => by simp at h)
  refine W_skip ?_
  refine W_seq ?_
  refine W_block ?_
  refine W_rE [0, 3, 4] ?_
  refine runA_pre 5 (by simp [c, ci, ht2]; rfl) rfl ?_
  refine runA_call (by simp) (by first | (simp; done) | (simp; rfl)) (oneT_sound r hrs) (by simp; rfl) ?_
  refine runA_b (by simp) ⟨_, by simp [evSame, evBsO, catK, AV.cellsK, AV.kone, AV.koneL]; rfl, ?_⟩
  rcases hx with ⟨rfl, rfl, rfl⟩ | ⟨h0, q, cq, rs, G, rfl, hH, hqh, hq, hrs2, hic, hcm⟩
  · refine runA_nilA (t := 46) (e := 49) (sz := 4) (by_ := 64) (m := 1) (s0 := 4) (x0 := []) (yc := recT r) (by simp) rfl rfl rfl rfl (by simp) (by simp [srcA, recT]) s46 a49 z49 (by simp) (by omega) (by omega) ?_
    intro cap' h1 h2
    refine ⟨_, by simp; rfl, ?_⟩
    refine runA_fin (by simp; rfl) ?_
    refine W_evE [0, 3, 4] (by simp [show IntKind.i64.wrap 1 = 1 from rfl]; rfl) ?_
    refine ⟨_, by omega, 1, .arr (H.length + 1) 0 1 cap', H ++ [.cells 49 (recT r), .cells 49 (recT r ++ repC (cap' - 1) [.v (.int .i64 0), .lst .nil 1 [], .lst .nil 1 [], .v (.bool false)])], rfl, by omega,
      .inr ⟨by omega, H.length + 1, cap', repC (cap' - 1) [.v (.int .i64 0), .lst .nil 1 [], .lst .nil 1 [], .v (.bool false)], _, rfl, rfl, by omega, ?_, by simp [repC_length], h1, h2⟩, by simp [recT]⟩
    rw [htk]
    simp [trT]
  · have hql : q < H.length := (List.getElem?_eq_some_iff.1 hq).1
    have hq2 : ∀ X, (H ++ X)[q]? = some (AObj.cells 49 (trT (t.take i) ++ rs)) := fun X => by rw [List.getElem?_append_left hql]; exact hq
    have hTl := trT_length (t.take i)
    refine runA_appA (t := 46) (e := 49) (sz := 4) (by_ := 64) (id := q) (len := i) (cap := cq) (m := 1) (cs := trT (t.take i) ++ rs) (yc := recT r) (by simp) rfl rfl rfl rfl (by simp) (by simp [srcA, recT]) s46 a49 z49 (by simp) (by simp [hq2]) (by simp; omega) (by omega) ?_
    intro s1 x1 hqq
    obtain ⟨q', cap', rs', h', rfl, rfl, k1, k2, k3, k4, k5, k6⟩ := app_stepT (by simp [hq2]) htl hrs2 rfl hcm hqq
    refine ⟨_, by simp; rfl, ?_⟩
    refine runA_fin (by simp; rfl) ?_
    refine W_evE [0, 3, 4] (by simp [wi]; rfl) ?_
    have hG : ∃ G', h' = H0 ++ G' := by
      rcases k6 with k6 | ⟨o, k6⟩
      · refine ⟨(G ++ [AObj.cells 49 (recT r)]).set (q - H0.length) (AObj.cells 49 (trT (t.take i ++ [r]) ++ rs')), ?_⟩
        rw [k6]
        simp only [hH, recT, List.append_assoc]
        rw [List.set_append_right _ _ hqh]
      · refine ⟨G ++ [AObj.cells 49 (recT r)] ++ [o], ?_⟩
        rw [k6]
        simp [hH, recT]
    obtain ⟨G', hG'⟩ := hG
    refine ⟨_, by omega, i + 1, .arr q' 0 (i + 1) cap', h', rfl, by omega, .inr ⟨by omega, q', cap', rs', G', rfl, hG', ?_, by rw [htk]; exact k1, k2, k3, k4⟩, by simp⟩
    rcases k5 with rfl | rfl
    · exact hqh
    · simp [hH]
end Go.AM
