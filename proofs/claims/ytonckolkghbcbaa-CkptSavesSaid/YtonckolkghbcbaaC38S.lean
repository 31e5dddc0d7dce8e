/- Save. -/
import Derived.Test.YtonckolkghbcbaaC38E
namespace Go.AM
open Go.RowKit Go.Proofs
set_option linter.unusedSimpArgs false
set_option linter.unusedVariables false
set_option maxHeartbeats 1000000

def pcM (seq : Nat) (state : List UInt8) (i : Nat) : Rec := ⟨1, [], be4 seq ++ (state.take (min (min (i * 1960) state.length + 1960) state.length)).drop (min (i * 1960) state.length), false⟩
def hdR (seq n : Nat) : Rec := ⟨2, [], hdM seq n, false⟩
def tksM (m seq : Nat) (state : List UInt8) : List (List Rec) := (List.range m).map fun i => if i + 1 = m then [pcM seq state i, hdR seq state.length] else [pcM seq state i]
def saveM (area : List (List Rec)) (state : List UInt8) : Nat × List (List Rec) × Nat :=
  if capN area.length = 0 then (0, [], 1)
  else if capN area.length < state.length then (0, [], 2)
  else if 2147483647 < nxM area then (0, [], 7)
  else (nxM area % 2 * (area.length / 2), tksM (area.length / 2) (nxM area) state, 0)

def exL (t : List (List Rec)) : List AV := t.map fun t => .lst .ex 4 (trL t)
@[simp] theorem exL_length (t : List (List Rec)) : (exL t).length = t.length := by simp [exL]
def pcs (seq : Nat) (state : List UInt8) (i : Nat) : List (List Rec) := (List.range i).map fun j => [pcM seq state j]
theorem pcs_succ (seq : Nat) (state : List UInt8) (i : Nat) : pcs seq state (i + 1) = pcs seq state i ++ [[pcM seq state i]] := by simp [pcs, List.range_succ]
@[simp] theorem pcs_length (seq : Nat) (state : List UInt8) (i : Nat) : (pcs seq state i).length = i := by simp [pcs]
def resS (p : Nat × List (List Rec) × Nat) : AV := .tup [.v (.int .i64 (p.1 : Nat)), .lst .any 1 (arL p.2.1), .v (.int .i64 (p.2.2 : Nat))]

theorem koneL_append (a b : List AV) : AV.koneL (a ++ b) = (AV.koneL a && AV.koneL b) := by induction a <;> simp_all [AV.koneL, Bool.and_assoc]
theorem koneL_exL (t : List (List Rec)) : AV.koneL (exL t) = true := by induction t <;> simp_all [exL, AV.koneL, AV.kone]
theorem rfL_exL (t : List (List Rec)) : AV.rfL (exL t) = true := by induction t <;> simp_all [exL, AV.rfL, AV.rf]
theorem weakL_exL (t : List (List Rec)) : AV.weakL (exL t) = exL t := by induction t <;> simp_all [exL, AV.weakL, AV.weak, Fl.wk]
theorem dpL_exL (t : List (List Rec)) : AV.dpL (exL t) = arL t := by induction t <;> simp_all [exL, arL, AV.dpL, AV.dp]
theorem dpL_append (a b : List AV) : AV.dpL (a ++ b) = AV.dpL a ++ AV.dpL b := by induction a <;> simp_all [AV.dpL]
theorem chunk1t : ∀ (n : Nat) (l : List AV), n ≤ l.length → chunk false 1 n l = l.take n
  | 0, _, _ => rfl
  | n + 1, [], h => by simp at h
  | n + 1, x :: l, h => by
    simp only [chunk, List.headD_cons, List.drop_succ_cons, List.drop_zero, List.take_succ_cons, Bool.false_eq_true, if_false]
    rw [chunk1t n l (by simpa using h)]

theorem save_sound (area : List (List Rec)) (state : List UInt8) (hl : area.length ≤ 100000) (hst : state.length ≤ 100000000) : Sound Try.prog 18 [.lst .any 1 (arL area), .lst .any 1 (byL state)] (resS (saveM area state)) := by
  refine sound_of_U Try.func18 rfl (by decide +kernel) (by simp [Try.f18]) rfl rfl (rs := [.tmp 4, .tmp 5, .tmp 6]) rfl ?_
  rw [show Try.f18.ntmps = 78 from rfl]
  refine W_evK [0, 1, 5] (by simp; rfl) ?_
  refine W_rK [0, 1, 5, 7] ?_
  refine runA_pre 2 (by simp; rfl) rfl ?_
  refine runA_call (by simp) (by first | (simp; done) | (simp; rfl)) (cap9_sound area.length) (by simp; rfl) ?_
  refine runA_fin (by simp; rfl) ?_
  refine W_seq ?_
  by_cases c : capN area.length = 0
  · have hR : saveM area state = (0, [], 1) := by unfold saveM; rw [if_pos c]
    refine W_evK [0, 1, 5, 7, 17] (by simp [c]; rfl) ?_
    refine W_cond rfl (fun _ => ?_) (fun h => by simp at h)
    refine W_evK [5, 4, 6] (by simp; rfl) ?_
    refine W_ret ?_
    repeat (first | refine on_ret ?_ | refine in_ret ?_)
    rw [hR]
    exact ⟨.tup [.v (.int .i64 0), .lst .nil 1 [], .v (.int .i64 1)], by simp [retQ], .plain _⟩
  obtain ⟨k1, k2, k3, k4⟩ := capN_pos c
  have c' : (capN area.length == 0) = false := beq_eq_false_iff_ne.2 c
  refine W_evK [0, 1, 5, 7, 17] (by simp [c']; rfl) ?_
  refine W_cond rfl (fun h => by simp at h) (fun _ => ?_)
  refine W_skip ?_
  refine W_seq ?_
  by_cases d : capN area.length < state.length
  · have hR : saveM area state = (0, [], 2) := by unfold saveM; rw [if_neg c, if_pos d]
    refine W_evK [0, 1, 5, 21] (by simp [d]; rfl) ?_
    refine W_cond rfl (fun _ => ?_) (fun h => by simp at h)
    refine W_evK [5, 4, 6] (by simp; rfl) ?_
    refine W_ret ?_
    repeat (first | refine on_ret ?_ | refine in_ret ?_)
    rw [hR]
    exact ⟨.tup [.v (.int .i64 0), .lst .nil 1 [], .v (.int .i64 2)], by simp [retQ], .plain _⟩
  refine W_evK [0, 1, 5, 21] (by simp [d]; rfl) ?_
  refine W_cond rfl (fun h => by simp at h) (fun _ => ?_)
  refine W_skip ?_
  refine W_rK [0, 1, 5, 8] ?_
  refine runA_pre 1 (by simp; rfl) rfl ?_
  refine runA_call (by simp) (by first | (simp; done) | (simp; rfl)) (next_sound area hl) (by simp; rfl) ?_
  refine runA_fin (by simp; rfl) ?_
  refine W_seq ?_
  obtain ⟨nx, hnx⟩ : ∃ nx, nxM area = nx := ⟨_, rfl⟩
  rw [hnx]
  by_cases e : 2147483647 < nx
  · have hR : saveM area state = (0, [], 7) := by unfold saveM; rw [if_neg c, if_neg d, if_pos (by rw [hnx]; exact e)]
    have e' : (2147483647 : Int) < nx := by omega
    refine W_evK [0, 1, 5, 8, 25] (by simp [e, e']; rfl) ?_
    refine W_cond rfl (fun _ => ?_) (fun h => by simp at h)
    refine W_evK [5, 4, 6] (by simp; rfl) ?_
    refine W_ret ?_
    repeat (first | refine on_ret ?_ | refine in_ret ?_)
    rw [hR]
    exact ⟨.tup [.v (.int .i64 0), .lst .nil 1 [], .v (.int .i64 7)], by simp [retQ], .plain _⟩
  have e' : ¬ (2147483647 : Int) < nx := by omega
  have hM : saveM area state = (nx % 2 * (area.length / 2), tksM (area.length / 2) nx state, 0) := by unfold saveM; rw [if_neg c, if_neg d, hnx, if_neg e]
  refine W_evK [0, 1, 5, 8, 25] (by simp [e, e']; rfl) ?_
  refine W_cond rfl (fun h => by simp at h) (fun _ => ?_)
  refine W_skip ?_
  obtain ⟨m, hm⟩ : ∃ m, area.length / 2 = m := ⟨_, rfl⟩
  have hdiv : (area.length : Int).tdiv 2 = (m : Int) := by rw [Int.tdiv_eq_ediv_of_nonneg (by omega)]; omega
  have hmw := w64 (n := (m : Int)) (by omega) (by omega)
  have hm1 : 1 ≤ m ∧ m ≤ 256 := by omega
  rw [hm] at hM
  refine W_evK [1, 5, 8, 9] (by simp [hdiv, hmw]; rfl) ?_
  refine W_seq ?_
  refine W_evK [1, 5, 8, 9, 29, 30] (by simp; rfl) ?_
  refine W_block ?_
  refine W_loop (fun k s => ∃ (i : Nat) (x : AV) (H : List AObj), k = m - i ∧ i ≤ m ∧
      ((i = 0 ∧ x = .lst .nil 1 [] ∧ H = []) ∨ (0 < i ∧ ∃ id cap, x = .arr id 0 i cap ∧ i ≤ cap ∧ cap ≤ maxLen ∧ H[id]? = some (.cells 28 (exL (pcs nx state i) ++ List.replicate (cap - i) (.lst .nil 4 []))))) ∧
      s = ⟨78, [(1, .lst .any 1 (byL state)), (5, x), (8, .v (.int .i64 nx)), (9, .v (.int .i64 m)), (29, .v (.int .i64 m)), (30, .v (.int .i64 i))], H⟩) (k := m) ⟨0, _, _, by simp, by omega, .inl ⟨rfl, rfl, rfl⟩, by simp⟩ ?_
  rintro k s ⟨i, x, H, rfl, hi, hx, rfl⟩
  refine W_evK [1, 5, 8, 9, 29, 30, 31] (by simp; rfl) ?_
  refine W_seq ?_
  refine W_cond rfl (fun h => ?_) (fun h => ?_)
  · refine W_skip ?_
    refine W_seq ?_
    refine W_block ?_
    have hi2 : i < m := by simp at h; omega
    obtain ⟨F, hF⟩ : ∃ F, min (i * 1960) state.length = F := ⟨_, rfl⟩
    obtain ⟨G, hG⟩ : ∃ G, min (F + 1960) state.length = G := ⟨_, rfl⟩
    have hpc : pcM nx state i = ⟨1, [], be4 nx ++ (state.take G).drop F, false⟩ := by unfold pcM; rw [hF, hG]
    have w1 : IntKind.i64.wrap ((i : Int) * 1960) = ((i * 1960 : Nat) : Int) := by rw [w64 (by omega) (by omega)]; omega
    have w2 : IntKind.i64.wrap ((F : Int) + 1960) = ((F + 1960 : Nat) : Int) := by rw [w64 (by omega) (by omega)]; omega
    have f1 : (if (state.length : Int) < ((i * 1960 : Nat) : Int) then (state.length : Int) else ((i * 1960 : Nat) : Int)) = (F : Int) := by split <;> omega
    have f2 : (if (state.length : Int) < ((F + 1960 : Nat) : Int) then (state.length : Int) else ((F + 1960 : Nat) : Int)) = (G : Int) := by split <;> omega
    have f1'' : (if (state.length : Int) < (i : Int) * 1960 then (state.length : Int) else (i : Int) * 1960) = (F : Int) := by split <;> omega
    have f2'' : (if (state.length : Int) < (F : Int) + 1960 then (state.length : Int) else (F : Int) + 1960) = (G : Int) := by split <;> omega
    have f1' : (if state.length < i * 1960 then (state.length : Int) else (i : Int) * 1960) = (F : Int) := by split <;> omega
    have f2' : (if state.length < F + 1960 then (state.length : Int) else (F : Int) + 1960) = (G : Int) := by split <;> omega
    refine W_evK [1, 5, 8, 9, 29, 30, 10] (by simp; rfl) ?_
    refine W_evK [1, 5, 8, 9, 29, 30, 11] (by simp [w1, f1', f1'']; rfl) ?_
    refine W_evK [1, 5, 8, 9, 29, 30, 11, 12] (by simp [w2, f2', f2'']; rfl) ?_
    have g1 : F ≤ G := by omega
    have g2 : G ≤ state.length := by omega
    have g1' : (F : Int) ≤ G := by omega
    have g2' : (G : Int) ≤ state.length := by omega
    have hc := concat_sound [be4 nx, (state.take G).drop F] (by simp [total]; omega) (by simp)
    rw [show [be4 nx, (state.take G).drop F].flatten = be4 nx ++ (state.take G).drop F by simp] at hc
    obtain ⟨pd, hpd⟩ : ∃ pd, be4 nx ++ (state.take G).drop F = pd := ⟨_, rfl⟩
    rw [hpd] at hc hpc
    refine W_rsE 12 [1, 5, 8, 9, 29, 30] mx (by decide +kernel) ?_
    refine runD_pre 2 (by simp; rfl) rfl ?_
    refine runD_call (by simp) (by first | (simp; done) | (simp; rfl)) (number_sound nx) (by simp; rfl) ?_
    refine runD_pre 5 (by simp [g1, g2, g1', g2', ← byL_drop, ← byL_take]; rfl) rfl ?_
    refine runD_call (by simp) (by first | (simp; done) | (simp; rfl)) hc (by simp; rfl) ?_
    refine runD_fin (by simp [setSeg, catK, AV.cellsK, AV.kone, AV.koneL]; rfl) ?_
    have wi := w64 (n := (i : Int) + 1) (by omega) (by omega)
    rcases hx with ⟨rfl, rfl, rfl⟩ | ⟨hi0, id, cap, rfl, hc1, hc2, hH⟩
    · refine runA_nil (s0 := 1) (x0 := []) (oy := .tip 28 218) (ys := [.lst .ex 4 (trL [⟨1, [], pd, false⟩])]) (by simp) rfl rfl rfl rfl (by simp) (by simp [trL_cons]) s23 a28 z28 (by simp) (by simp [catK, AV.cellsK, AV.kone, AV.koneL]; rfl) (by simp) (by simp) ?_
      intro cap q1 q2
      refine ⟨_, by simp; rfl, ?_⟩
      refine runA_fin (by simp; rfl) ?_
      refine W_evE [1, 5, 8, 9, 29, 30] (by simp [show IntKind.i64.wrap 1 = 1 from rfl]; rfl) ?_
      refine ⟨_, by omega, 1, .arr 0 0 1 cap, _, rfl, by omega, .inr ⟨by omega, 0, cap, rfl, by simpa using q1, q2, ?_⟩, by simp; rfl⟩
      simp [pcs, exL, hpc, AV.weakL, AV.weak, Fl.wk, repC_nil]
    · refine runA_app (id := id) (len := i) (cap := cap) (oy := .tip 28 218) (ys := [.lst .ex 4 (trL [⟨1, [], pd, false⟩])]) (cs := exL (pcs nx state i) ++ List.replicate (cap - i) (.lst .nil 4 [])) (by simp) rfl rfl rfl rfl (by simp) (by simp [trL_cons]) s23 a28 z28 (by simp)
        (by simpa using hH) (by simp; omega) (by simp [catK, AV.cellsK, AV.kone, AV.koneL]; rfl) (by simp; omega) ?_
      have hnw : exL (pcs nx state (i + 1)) = exL (pcs nx state i) ++ [.lst .ex 4 (trL [⟨1, [], pd, false⟩])] := by rw [pcs_succ, hpc]; simp [exL]
      rintro s1 x1 (⟨q1, rfl, rfl⟩ | ⟨q1, cap', q2, q3, rfl, rfl⟩)
      · refine ⟨_, by simp; rfl, ?_⟩
        refine runA_fin (by simp; rfl) ?_
        refine W_evE [1, 5, 8, 9, 29, 30] (by simp [wi]; rfl) ?_
        refine ⟨_, by omega, i + 1, .arr id 0 (i + 1) cap, _, rfl, by omega, .inr ⟨by omega, id, cap, rfl, by simpa using q1, hc2, ?_⟩, by simp; rfl⟩
        have hidl : id < H.length := (List.getElem?_eq_some_iff.1 hH).1
        rw [List.getElem?_set_self hidl, hnw]
        have : cap - i = (cap - (i + 1)) + 1 := by simp at q1; omega
        simp [setSeg, AV.weakL, AV.weak, Fl.wk, this, List.replicate_succ]
        have e0 : List.drop (i + 1) (exL (pcs nx state i)) = [] := List.drop_eq_nil_of_le (by simp)
        rw [List.drop_append, e0]
        simp
      · refine ⟨_, by simp; rfl, ?_⟩
        refine runA_fin (by simp; rfl) ?_
        refine W_evE [1, 5, 8, 9, 29, 30] (by simp [wi]; rfl) ?_
        refine ⟨_, by omega, i + 1, .arr H.length 0 (i + 1) cap', _, rfl, by omega, .inr ⟨by omega, H.length, cap', rfl, by simpa using q2, q3, ?_⟩, by simp; rfl⟩
        rw [List.getElem?_append_right (by simp), hnw]
        simp [AV.weakL, AV.weak, Fl.wk, repC_nil]
  refine W_exit ?_
  have him : i = m := by simp at h; omega
  subst him
  rcases hx with ⟨h0, _⟩ | ⟨hi0, id, cap, rfl, hc1, hc2, hH⟩
  · omega
  obtain ⟨j, rfl⟩ : ∃ j, i = j + 1 := ⟨i - 1, by omega⟩
  have hpj : exL (pcs nx state (j + 1)) = exL (pcs nx state j) ++ [.lst .ex 4 (trL [pcM nx state j])] := by rw [pcs_succ]; simp [exL]
  have wj : IntKind.i64.wrap (((j + 1 : Nat) : Int) - 1) = (j : Int) := by rw [w64 (by omega) (by omega)]; omega
  have wj' : IntKind.i64.wrap ((j : Int) + 1 - 1) = (j : Int) := by rw [w64 (by omega) (by omega)]; omega
  rw [hpj] at hH
  have hld : (exL (pcs nx state j) ++ [.lst .ex 4 (trL [pcM nx state j])] ++ List.replicate (cap - (j + 1)) (AV.lst .nil 4 []))[j]? = some (.lst .ex 4 (trL [pcM nx state j])) := by
    rw [List.append_assoc, List.getElem?_append_right (by simp)]; simp
  have wj'' : IntKind.i64.wrap (j : Int) = (j : Int) := w64 (by omega) (by omega)
  have hjj : (j : Int) < (j : Int) + 1 := by omega
  refine W_rsK 15 [5, 8, 9] mx (by decide +kernel) ?_
  refine runD_pre 7 (by simp [wj, wj', wj'', hjj]; rfl) rfl ?_
  refine runD_pre 1 (by simp [hH, hld]; rfl) rfl ?_
  refine runD_pre 3 (by simp; rfl) rfl ?_
  refine runD_call (by simp) (by first | (simp; done) | (simp; rfl)) (hd_sound nx state.length) (by simp; rfl) ?_
  refine runD_fin (by simp [setSeg, catK, AV.cellsK, AV.kone, AV.koneL]; rfl) ?_
  refine runA_fin (by simp [hjj, hH, AV.cellsK, AV.kone]; rfl) ?_
  have m1 : (nx : Int).tmod 2 = ((nx % 2 : Nat) : Int) := by rw [Int.tmod_eq_emod_of_nonneg (by omega)]; omega
  have m2 : IntKind.i64.wrap (((nx % 2 : Nat) : Int) * ((j + 1 : Nat) : Int)) = ((nx % 2 * (j + 1) : Nat) : Int) := by
    have : nx % 2 * (j + 1) ≤ 1 * (j + 1) := Nat.mul_le_mul_right _ (by omega)
    rw [← Int.natCast_mul]
    generalize nx % 2 * (j + 1) = q at this
    exact w64 (by omega) (by omega)
  refine W_evK [5, 4, 6] (by simp only [keepS_mk]; simp [m1, -Int.natCast_emod]; rfl) ?_
  have m2' : IntKind.i64.wrap (((nx % 2 : Nat) : Int) * ((j : Int) + 1)) = ((nx % 2 * (j + 1) : Nat) : Int) := by rw [← m2]; rfl
  rw [m2']
  have hset : setSeg (exL (pcs nx state j) ++ AV.lst Fl.ex 4 (trL [pcM nx state j]) :: List.replicate (cap - (j + 1)) (AV.lst Fl.nil 4 [])) j
      [AV.lst (Fl.tip 52 143) 4 (trL [pcM nx state j] ++ [AV.agg [AV.v (Value.int IntKind.i64 2), AV.lst Fl.any 1 [], AV.lst Fl.any 1 (byL (hdM nx state.length)), AV.v (Value.bool false)]])] =
      exL (pcs nx state j) ++ .lst (.tip 52 143) 4 (trL [pcM nx state j, hdR nx state.length]) :: List.replicate (cap - (j + 1)) (AV.lst Fl.nil 4 []) := by
    have e0 : List.drop (j + 1) (exL (pcs nx state j)) = [] := List.drop_eq_nil_of_le (by simp)
    simp only [setSeg, List.length_singleton]
    rw [List.take_append_of_le_length (by simp), List.take_of_length_le (by simp), List.drop_append, e0]
    simp [trL_cons, hdR]
  rw [hset]
  have hidl : id < H.length := (List.getElem?_eq_some_iff.1 hH).1
  have w1 : ∀ n, AV.weakL (List.replicate n (AV.lst .nil 4 [])) = List.replicate n (AV.lst .any 4 []) := fun n => by induction n <;> simp_all [List.replicate_succ, AV.weakL, AV.weak, Fl.wk]
  have w2 : ∀ n, AV.koneL (List.replicate n (AV.lst .nil 4 [])) = true := fun n => by induction n <;> simp_all [List.replicate_succ, AV.koneL, AV.kone]
  have w3 : ∀ n, AV.rfL (List.replicate n (AV.lst .nil 4 [])) = true := fun n => by induction n <;> simp_all [List.replicate_succ, AV.rfL, AV.rf]
  obtain ⟨CS, hCS⟩ : ∃ CS, exL (pcs nx state j) ++ .lst (.tip 52 143) 4 (trL [pcM nx state j, hdR nx state.length]) :: List.replicate (cap - (j + 1)) (AV.lst Fl.nil 4 []) = CS := ⟨_, rfl⟩
  have hlen : CS.length = cap := by rw [← hCS]; simp; omega
  have hk : AV.koneL CS = true := by rw [← hCS]; simp [koneL_append, koneL_exL, AV.koneL, AV.kone, w2]
  have hr : AV.rfL CS = true := by rw [← hCS]; simp [rfL_append, rfL_exL, AV.rfL, AV.rf, w3]
  have hwk : chunk false 1 (j + 1) (AV.weakL CS) = exL (pcs nx state j) ++ [.lst .any 4 (trL [pcM nx state j, hdR nx state.length])] := by
    rw [chunk1t _ _ (by rw [weakL_length, hlen]; omega), ← hCS, weakL_append, weakL_exL]
    simp only [AV.weakL, AV.weak, Fl.wk, w1]
    rw [List.take_append, List.take_of_length_le (by simp)]
    simp
  rw [hCS]
  have hfz : frzArr Try.prog (H.set id (.cells 28 CS)) 1 id 0 (j + 1) cap = some (.lst (if 0 = 0 ∧ j + 1 = cap ∧ cap * 1 = CS.length then .tip 28 1 else .any) 1 (exL (pcs nx state j) ++ [.lst .any 4 (trL [pcM nx state j, hdR nx state.length])]), (H.set id (.cells 28 CS)).set id (.froz 28 (AV.weakL CS))) := by
    unfold frzArr
    rw [List.getElem?_set_self hidl]
    simp only [t28, List.drop_zero, hwk]
    rw [if_pos ⟨by omega, .inr trivial, by omega, hk, hr⟩]
  have htk : tksM (j + 1) nx state = pcs nx state j ++ [[pcM nx state j, hdR nx state.length]] := by
    unfold tksM pcs
    rw [List.range_succ, List.map_append]
    congr 1
    · refine List.map_congr_left fun i hi => ?_
      rw [if_neg (by have := List.mem_range.1 hi; omega)]
    · simp
  refine W_ret ?_
  repeat (first | refine on_ret ?_ | refine in_ret ?_)
  rw [hM, htk]
  obtain ⟨FL, hFL⟩ : ∃ FL, (if 0 = 0 ∧ j + 1 = cap ∧ cap * 1 = CS.length then Fl.tip 28 1 else .any) = FL := ⟨_, rfl⟩
  rw [hFL] at hfz
  obtain ⟨q, hq⟩ : ∃ q, nx % 2 * (j + 1) = q := ⟨_, rfl⟩
  rw [hq]
  refine ⟨.tup [.v (.int .i64 (q : Int)), .lst FL 1 (exL (pcs nx state j) ++ [.lst .any 4 (trL [pcM nx state j, hdR nx state.length])]), .v (.int .i64 0)], ?_, ?_⟩
  · refine ⟨.inr rfl, .tup [.v (.int .i64 (q : Int)), .arr id 0 (j + 1) cap, .v (.int .i64 0)], _, by simp, by simp only [frzV, frzL, Option.bind_some, hfz, Option.map_some]; rfl, ?_⟩
    simp [AV.rf, AV.rfL, rfL_append, rfL_exL]
  · refine .trans (.dp _) ?_
    have : AV.dpL (exL (pcs nx state j) ++ [.lst .any 4 (trL [pcM nx state j, hdR nx state.length])]) = arL (pcs nx state j ++ [[pcM nx state j, hdR nx state.length]]) := by
      rw [dpL_append, dpL_exL, arL_append]; simp [AV.dpL, AV.dp, arL]
    simp only [AV.dp, AV.dpL, this]
    exact .refl _
end Go.AM
