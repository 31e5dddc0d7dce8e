/- The specification's place and Layout: the walks. -/
import Derived.Test.YtknlmgnfflfpeaaC23J
namespace Go.AM
open Go.RowKit Go.Proofs
set_option linter.unusedSimpArgs false
set_option linter.unusedVariables false
set_option maxHeartbeats 1000000

def placeQ (H : List AObj) (p : List (List Rec) × List Rec) (r : AV) (h' : List AObj) : Prop :=
  ∃ id cap cs, r = .arr id 0 (p.1.length + 1) cap ∧ goodR h' ∧ h'[id]? = some (.cells 46 cs) ∧ TC p.1 p.2 cap cs ∧ cap ≤ maxLen ∧ H.length ≤ h'.length
theorem retP {H K : List AObj} {p : List (List Rec) × List Rec} {x : AV} {n : Nat} (h : placeQ H p x K) : retW Try.prog [.tmp 4] H.length (placeQ H p) .ret ⟨n, [(4, x)], K⟩ := by
  have h0 := h
  obtain ⟨id, cap, cs, rfl, hg, hid, htc, hm, hl⟩ := h
  have hlt : id < K.length := (List.getElem?_eq_some_iff.1 hid).1
  refine ⟨.inr rfl, _, _, K, K.length, by simp; rfl, .inl ⟨rfl, rfl⟩, hl, Nat.le_refl _, by simpa [AV.under] using hlt, ?_, ?_⟩
  · rw [List.take_length]; exact good_under hg _
  · rw [List.take_length]; exact h0
theorem killL_ce {cs : List AV} (h : ∀ x ∈ cs, CE x) : AV.killL 0 cs = cs := by
  induction cs with
  | nil => rfl
  | cons x cs ih =>
    simp only [AV.killL, ih fun y hy => h y (List.mem_cons_of_mem _ hy)]
    congr 1
    obtain ⟨t, rfl | ⟨f, rfl, rfl | rfl | ⟨rfl, rfl⟩⟩⟩ := h x List.mem_cons_self <;> simp [AV.kill]
theorem growQ {O : List (List Rec)} {now now' : List Rec} {cap T id : Nat} {cs : List AV} {H K : List AObj} (hK : goodR K) (hid : id < K.length) (hl : H.length ≤ K.length) (htc : TC O now cap cs) (hm : cap ≤ maxLen) {x : AV} (hx : okL x now') :
    placeQ H (O, now') (.arr id 0 (O.length + 1) cap) (K.set id (.cells 46 (setSeg (AV.killL T cs) O.length [x]))) := by
  have h2 := htc.grow (T := T) hx
  exact ⟨id, cap, _, rfl, good_set hK _ (.inl ⟨_, rfl, h2.ce⟩), List.getElem?_set_self hid, h2, hm, by simpa using hl⟩
theorem repC_one (a : AV) (n : Nat) : repC n [a] = List.replicate n a := by
  induction n with
  | zero => rfl
  | succ n ih => rw [repC, ih]; rfl
theorem nextQ {s s1 : St} {O : List (List Rec)} {now now' : List Rec} {cap id : Nat} {cs : List AV} {H : List AObj} {x x1 : AV} (hK : goodR s.h) (hid : s.h[id]? = some (.cells 46 cs)) (hl : H.length ≤ s.h.length) (htc : TC O now cap cs) (hm : cap ≤ maxLen) (hx : okL x now') (hw : x.weak = x)
    (h : appQ s 46 1 id (O.length + 1) cap 1 [x] cs (AV.lst .nil 4 []).cells s1 x1) : ∃ K', s1 = ⟨s.n, s.fr, K'⟩ ∧ placeQ H (O ++ [now], now') x1 K' := by
  have hwl : AV.weakL [x] = [x] := by simp [AV.weakL, hw]
  have hidl : id < s.h.length := (List.getElem?_eq_some_iff.1 hid).1
  unfold appQ at h
  rw [hwl, Nat.mul_one] at h
  rcases h with ⟨h1, rfl, rfl⟩ | ⟨h1, cap', h2, h3, rfl, rfl⟩
  · have h4 := htc.next (by omega) hx
    exact ⟨_, rfl, id, cap, _, by simp, good_set hK _ (.inl ⟨_, rfl, h4.ce⟩), List.getElem?_set_self hidl, h4, hm, by simpa using hl⟩
  · have h4 := htc.move (by omega) hx (cap' := cap')
    rw [show (AV.lst Fl.nil 4 []).cells = [AV.lst .nil 4 []] from rfl, repC_one]
    exact ⟨_, rfl, s.h.length, cap', _, by simp, good_push hK (.inl ⟨_, rfl, h4.ce⟩), by simp, h4, h3, by simp; omega⟩
theorem rplace_callW (O : List (List Rec)) (now : List Rec) (data : List UInt8) (fl : Fl) (H : List AObj) (id cap : Nat) (cs : List AV) (hg : goodR H) (hid : H[id]? = some (.cells 46 cs)) (htc : TC O now cap cs) (hmx : cap ≤ maxLen)
    (hO : O.length ≤ 1000000) (hn : now.length < 1000000) (hs : ∀ r ∈ now, recSm r) (hd : data.length ≤ 1000000000) :
    CallW Try.prog 56 [.arr id 0 (O.length + 1) cap, .lst fl 1 (byL data)] H (placeQ H (placeM (O, now) data)) := by
  refine callW_of_W Try.func56 rfl (by decide +kernel) (by simp [Try.f56]) (rs := [.tmp 4]) rfl ?_
  rw [show Try.f56.ntmps = 43 from rfl]
  have hidl : id < H.length := (List.getElem?_eq_some_iff.1 hid).1
  have w0 : IntKind.i64.wrap (((O.length + 1 : Nat) : Int) - 1) = (O.length : Int) := by rw [w64 (by omega) (by omega)]; omega
  have w0' : IntKind.i64.wrap (O.length : Int) = (O.length : Int) := w64 (by omega) (by omega)
  have wl : IntKind.i64.wrap ((now.length : Int) + 1) = ((now.length + 1 : Nat) : Int) := by rw [w64 (by omega) (by omega)]; omega
  have hr : recSm (newR now data) := ⟨by simp [newR], by simpa [newR] using hd⟩
  have hfs := rfits15_sound now (newR now data) ⟨by omega, hs⟩ hr (by omega)
  obtain ⟨x, hcx, f, rfl, hf⟩ := htc.cur
  have ho1 : (O.length : Int) < (O.length : Int) + 1 := by omega
  refine W_evK [0, 1] (by simp; rfl) ?_
  refine W_evK [0, 1, 5] (by simp [w0, w0']; rfl) ?_
  have hg1 : (H ++ [AObj.cells 49 [.v (.int .i64 0), .lst .nil 1 [], .lst .nil 1 [], .v (.bool false)]])[id]? = some (.cells 46 cs) := by rw [List.getElem?_append_left hidl]; exact hid
  refine W_rK [0, 5, 6] ?_
  refine runA_pre 6 (by simp [ho1, hid, hcx, wl, -Int.natCast_add]; rfl) rfl ?_
  refine runA_fin (by simp [setSeg]; rfl) ?_
  refine W_dpB H.length (ty := 49) (cs := [.v (.int .i64 ((now.length : Int) + 1)), .lst .nil 1 [], .lst fl 1 (byL data), .v (.bool false)]) (by simp) ?_
  have hrc : AV.dpL [.v (.int .i64 ((now.length : Int) + 1)), .lst .nil 1 [], .lst fl 1 (byL data), .v (.bool false)] = recC (newR now data) := by simp [AV.dpL, AV.dp, recC, newR]
  rw [hrc]
  obtain ⟨K, hK⟩ : ∃ K, H ++ [AObj.cells 49 (recC (newR now data))] = K := ⟨_, rfl⟩
  have hset : (H ++ [AObj.cells 49 [.v (.int .i64 ((now.length : Int) + 1)), .lst .nil 1 [], .lst fl 1 (byL data), .v (.bool false)]]).set H.length (.cells 49 (recC (newR now data))) = K := by
    rw [← hK]; simp
  have hKl : K.length = H.length + 1 := by rw [← hK]; simp
  have hK1 : K[id]? = some (.cells 46 cs) := by rw [← hK, List.getElem?_append_left hidl]; exact hid
  have hK2 : K[H.length]? = some (.cells 49 (recC (newR now data))) := by rw [← hK]; simp
  have hKg : goodR K := by rw [← hK]; exact good_push hg (.inr ⟨_, rfl⟩)
  simp only [keepS_mk, setSeg, List.take_zero, List.nil_append, List.length_cons, List.length_nil, List.drop_succ_cons, List.drop_nil, List.append_nil, hset]
  refine W_seq ?_
  have wn : IntKind.i64.wrap 1 = 1 := rfl
  cases hft : fitsT now (newR now data) with
  | true =>
    rw [hft] at hfs
    have hP : placeM (O, now) data = (O, now ++ [newR now data]) := by simp [placeM, hft]
    rw [hP]
    refine W_rdK [0, 5, 6, 23] mx (by decide +kernel) ?_
    refine runD_pre 5 (by simp [ho1, hK1, hcx, hK2, recC]; rfl) rfl ?_
    refine runD_call (by simp) (by first | (simp; done) | (simp; rfl)) hfs (by simp; rfl) ?_
    refine runD_fin (by simp; rfl) ?_
    refine W_cond rfl (fun h => ?_) (fun h => by simp at h)
    have b3 : (now.length + 1) * 64 ≤ 140737488355328 := by omega
    have b4 : 64 * (now.length + 1) ≤ 140737488355328 := by omega
    have hone := oneR_sound (newR now data) hr
    have hKidl : id < K.length := by omega
    have hle : O.length + 1 ≤ cs.length := by rw [htc.len]; exact htc.le
    have hki : (K.map (AObj.kill 67))[id]? = some (.cells 46 (AV.killL 67 cs)) := by rw [List.getElem?_map, hK1]; rfl
    have hkl : (AV.killL 67 cs).length = cs.length := by
      have : ∀ xs : List AV, (AV.killL 67 xs).length = xs.length := fun xs => by induction xs <;> simp_all [AV.killL]
      exact this cs
    rcases hf with rfl | rfl | ⟨rfl, h0⟩
    · refine W_rdK [0] mx (by decide +kernel) ?_
      refine runD_pre 7 (by simp [ho1, hK1, hcx, hK2, recC]; rfl) rfl ?_
      refine runD_call (by simp) (by first | (simp; done) | (simp; rfl)) hone (by simp; rfl) ?_
      refine runD_fin (by simp [ho1, hK1, hcx, catK, AV.cellsK, AV.kone, AV.koneL, b3, b4, hle, trL_snoc]; rfl) ?_
      refine W_evK [4] (by simp; rfl) ?_
      refine W_ret ?_
      repeat (first | refine on_ret ?_ | refine in_ret ?_)
      refine retP ?_
      have h1 := growQ (T := 0) (H := H) hKg hKidl (by omega) htc hmx (x := .lst (.tip 49 67) 4 (trL (now ++ [newR now data]))) ⟨_, rfl, .inr (.inl rfl)⟩
      rw [killL_ce htc.ce] at h1
      simpa using h1
    · refine W_rdK [0] mx (by decide +kernel) ?_
      refine runD_pre 7 (by simp [ho1, hK1, hcx, hK2, recC]; rfl) rfl ?_
      refine runD_call (by simp) (by first | (simp; done) | (simp; rfl)) hone (by simp; rfl) ?_
      have hle2 : O.length + 1 ≤ (AV.killL 67 cs).length := by rw [hkl]; exact hle
      refine runD_fin (by simp [ho1, hK1, hcx, hki, catK, AV.cellsK, AV.kone, AV.koneL, b3, b4, hle, hle2, trL_snoc, List.getElem?_map, AObj.kill]; rfl) ?_
      refine W_evK [4] (by simp; rfl) ?_
      refine W_ret ?_
      repeat (first | refine on_ret ?_ | refine in_ret ?_)
      refine retP ?_
      have h1 := growQ (T := 67) (H := H) (good_kill hKg 67) (by simpa using hKidl) (by simp; omega) htc hmx (x := .lst (.tip 49 67) 4 (trL (now ++ [newR now data]))) ⟨_, rfl, .inr (.inl rfl)⟩
      simpa using h1
    · subst h0
      refine W_rdK [0] mx (by decide +kernel) ?_
      refine runD_pre 7 (by simp [ho1, hK1, hcx, hK2, recC]; rfl) rfl ?_
      refine runD_call (by simp) (by first | (simp; done) | (simp; rfl)) hone (by simp; rfl) ?_
      refine runD_fin (by simp [ho1, hK1, hcx, catK, AV.cellsK, AV.kone, AV.koneL, hle]; rfl) ?_
      refine W_evK [4] (by simp; rfl) ?_
      refine W_ret ?_
      repeat (first | refine on_ret ?_ | refine in_ret ?_)
      refine retP ?_
      have h1 := growQ (T := 0) (H := H) hKg hKidl (by omega) htc hmx (x := .lst (.tip 49 67) 4 (trL ([] ++ [newR [] data]))) ⟨_, rfl, .inr (.inl rfl)⟩
      rw [killL_ce htc.ce] at h1
      simpa [trL_cons] using h1
  | false =>
    rw [hft] at hfs
    have hP : placeM (O, now) data = (O ++ [now], [⟨1, [], data, false⟩]) := by simp [placeM, hft]
    rw [hP]
    refine W_rdK [0, 5, 6, 23] mx (by decide +kernel) ?_
    refine runD_pre 5 (by simp [ho1, hK1, hcx, hK2, recC]; rfl) rfl ?_
    refine runD_call (by simp) (by first | (simp; done) | (simp; rfl)) hfs (by simp; rfl) ?_
    refine runD_fin (by simp; rfl) ?_
    refine W_cond rfl (fun h => by simp at h) (fun h => ?_)
    refine W_skip ?_
    have hone := oneR_sound ⟨1, [], data, false⟩ ⟨by simp, hd⟩
    have hHl : H.length < K.length := by omega
    refine W_evK [0, 6] (by simp [hK2, recC, setSeg, newR]; rfl) ?_
    obtain ⟨K2, hK2e⟩ : ∃ K2, K.set H.length (AObj.cells 49 [.v (.int .i64 1), .lst .any 1 [], .lst .any 1 (byL data), .v (.bool false)]) = K2 := ⟨_, rfl⟩
    rw [hK2e]
    have hne : id ≠ H.length := by omega
    have hK2i : K2[id]? = some (.cells 46 cs) := by rw [← hK2e, List.getElem?_set_ne (fun e => hne e.symm)]; exact hK1
    have hK2b : K2[H.length]? = some (.cells 49 [.v (.int .i64 1), .lst .any 1 [], .lst .any 1 (byL data), .v (.bool false)]) := by rw [← hK2e, List.getElem?_set_self hHl]
    have hK2g : goodR K2 := by rw [← hK2e]; exact good_set hKg _ (.inr ⟨⟨1, [], data, false⟩, rfl⟩)
    have hK2l : K2.length = K.length := by rw [← hK2e]; simp
    refine W_rK [4] ?_
    refine runA_pre 2 (by simp [hK2b]; rfl) rfl ?_
    refine runA_call (by simp) (by first | (simp; done) | (simp; rfl)) hone (by simp; rfl) ?_
    refine runA_pre 2 (by simp [catK, AV.cellsK, AV.kone, AV.koneL]; rfl) rfl ?_
    refine runA_app (id := id) (len := O.length + 1) (cap := cap) (oy := .tip 46 166) (ys := [.lst .ex 4 (trL [⟨1, [], data, false⟩])]) (cs := cs) (by simp) rfl rfl rfl rfl (by simp) (by simp [trL_cons]) s26 a46 z46 (by simp) (by simp [hK2i]) (by simp [htc.len]) (by simp [catK, AV.cellsK, AV.kone, AV.koneL]; rfl) (by simp; omega) ?_
    intro s1 x1 hq
    obtain ⟨K', rfl, hpq⟩ := nextQ (H := H) hK2g hK2i (by simp; omega) htc hmx ⟨.ex, rfl, .inl rfl⟩ (by simp [AV.weak, Fl.wk]) hq
    refine ⟨_, by simp; rfl, ?_⟩
    refine runA_fin (by simp; rfl) ?_
    refine W_ret ?_
    repeat (first | refine on_ret ?_ | refine in_ret ?_)
    exact retP hpq
end Go.AM
