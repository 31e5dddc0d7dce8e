/- SeqAfter: the law's walk. -/
import Derived.Test.YtknlmgnfflfpeaaC23ZD
import Derived.Test.YtknlmgnfflfpeaaC23ZC
import Derived.Test.YtknlmgnfflfpeaaC23T
import Derived.Test.YtknlmgnfflfpeaaAmC
namespace Go.AM
open Go.RowKit Go.Proofs
set_option linter.unusedSimpArgs false
set_option linter.unusedVariables false
set_option maxHeartbeats 2000000

theorem deep_byL (l : List UInt8) : (AV.lst .any 1 (byL l)).deep = true := by
  have : AV.deepL (byL l) = true := by
    induction l with
    | nil => rfl
    | cons b l ih => rw [byL_cons, AV.deepL, ih]; rfl
  simp only [AV.deep, this, Bool.and_true, Bool.or_eq_true]
  cases l with
  | nil => exact .inl rfl
  | cons b l => exact .inr rfl
theorem deep_recA (r : Rec) : (recA r).deep = true := by
  show (true && ((AV.lst .any 1 (byL r.key)).deep && ((AV.lst .any 1 (byL r.data)).deep && (true && true)))) = true
  rw [deep_byL, deep_byL]
  rfl
theorem deep_trL (t : List Rec) : (AV.lst .any 4 (trL t)).deep = true := by
  have : AV.deepL (trL t) = true := by
    induction t with
    | nil => rfl
    | cons r t ih => rw [trL_cons, AV.deepL, deep_recA, ih]; rfl
  simp only [AV.deep, this, Bool.and_true, Bool.or_eq_true]
  cases t with
  | nil => exact .inl rfl
  | cons b l => exact .inr rfl
theorem thwL_arL (a : List (List Rec)) : AV.thwL (arL a) = true := by
  have h1 : (arL a).all AV.isL = true := by simp [arL, AV.isL]
  have h2 : AV.deepL (arL a) = true := by
    induction a with
    | nil => rfl
    | cons t a ih =>
      show (AV.deep (.lst .any 4 (trL t)) && AV.deepL (arL a)) = true
      rw [deep_trL, ih (by simp [arL, AV.isL])]; rfl
  simp [AV.thwL, h1, h2]
theorem deepL_bbL (l : List (List UInt8)) : AV.deepL (bbL l) = true := by
  induction l with
  | nil => rfl
  | cons b l ih =>
    rw [bbL_cons]
    show (AV.deep (.lst .any 1 (byL b)) && AV.deepL (bbL l)) = true
    rw [deep_byL, ih]; rfl
theorem chunk_arL (a : List (List Rec)) : chunk false 1 a.length (arL a) = arL a := by
  induction a with
  | nil => rfl
  | cons t a ih =>
    show (AV.lst .any 4 (trL t)) :: chunk false 1 a.length ((arL (t :: a)).drop 1) = _
    rw [show (arL (t :: a)).drop 1 = arL a from rfl, ih]; rfl

def areaC (a : List (List Rec)) (cap : Nat) : List AV := arL a ++ List.replicate (cap - a.length) .any
theorem killL_any (T n : Nat) : AV.killL T (List.replicate n .any) = List.replicate n .any := killL_tl _ (by induction n with | zero => rfl | succ n ih => rw [List.replicate_succ, AV.tlL, ih]; rfl)
theorem tlL_any (n : Nat) : AV.tlL (List.replicate n .any) = true := by induction n with | zero => rfl | succ n ih => rw [List.replicate_succ, AV.tlL, ih]; rfl
theorem tlL_app (xs ys : List AV) : AV.tlL (xs ++ ys) = (AV.tlL xs && AV.tlL ys) := by
  induction xs with
  | nil => simp [AV.tlL]
  | cons x xs ih => rw [List.cons_append, AV.tlL, AV.tlL, ih, Bool.and_assoc]
@[simp] theorem tlL_areaC (a : List (List Rec)) (cap : Nat) : AV.tlL (areaC a cap) = true := by rw [areaC, tlL_app, tlL_arL, tlL_any]; rfl
@[simp] theorem killL_areaC (T : Nat) (a : List (List Rec)) (cap : Nat) : AV.killL T (areaC a cap) = areaC a cap := killL_tl _ (tlL_areaC a cap)
@[simp] theorem killSL_areaC (T : List Nat) (a : List (List Rec)) (cap : Nat) : AV.killSL T (areaC a cap) = areaC a cap := killSL_tl _ (tlL_areaC a cap)
@[simp] theorem toksL_areaC (a : List (List Rec)) (cap : Nat) : AV.toksL (areaC a cap) = [] := toksL_tl _ (tlL_areaC a cap)

def areaS (T0 : List (List Rec)) (t : List Rec) (T : List (List Rec)) (cap : Nat) : List AV := (areaC T cap).take T0.length ++ .lst (.tip 49 119) 4 (trL t) :: (areaC T cap).drop (T0.length + 1)
theorem areaS_length {T0 T : List (List Rec)} {t : List Rec} {cap : Nat} (h : T0.length < T.length) (hc : T.length ≤ cap) : (areaS T0 t T cap).length = cap := by
  simp [areaS, areaC]; omega
theorem areaS_take {T0 : List (List Rec)} {t0 t : List Rec} {cap : Nat} : (areaS T0 t (T0 ++ [t0]) cap).take ((T0 ++ [t0]).length * 1) = arL T0 ++ [.lst (.tip 49 119) 4 (trL t)] := by
  have e : (areaC (T0 ++ [t0]) cap).take T0.length = arL T0 := by
    rw [areaC, arL_append, List.append_assoc, List.take_append_of_le_length (by simp), List.take_of_length_le (by simp)]
  rw [Nat.mul_one, areaS, e, List.take_append, List.take_of_length_le (by simp)]
  simp
theorem areaC_take (a : List (List Rec)) (cap : Nat) : (areaC a cap).take (a.length * 1) = arL a := by
  rw [areaC, Nat.mul_one, List.take_append_of_le_length (by simp), List.take_of_length_le (by simp)]

theorem blocks_lent {T : List (List Rec)} {id cap : Nat} {h : List AObj} (hT : T.length ≤ 100000) (hs : ∀ l ∈ T, trSm l) (hobj : h[id]? = some (.cells 46 (areaC T cap))) {Q : AV → List AObj → Prop}
    (hQ : Q (resB (blocksM T)) h) : CallW Try.prog 27 [.arr id 0 T.length cap] h Q := by
  have h0 := blocks_sound T hT hs
  refine callW_lendD (T := 1) (pre := []) (post := []) (ag := false) (sz := 1) (e := 46) (cs := areaC T cap) (r := resB (blocksM T)) rfl ?_ hobj (by omega) (.inr rfl) (by simp [areaC]) (by rw [areaC_take]; simp) (by rw [areaC_take]; simp) (by rw [areaC_take]; simp [arL, AV.isL2]) ?_ (by simpa [resB] using hQ)
  · rw [areaC_take]
    simpa [chunk_arL] using h0
  · simp [resB, AV.dpR, AV.dpT, deepL_bbL]
theorem records_lent {d : Dcb} {T : List (List Rec)} {id cap : Nat} {h : List AObj} (hT : T.length ≤ 100000) (hs : ∀ l ∈ T, trSm l) (hb : (blocksM T).1.length ≤ 100000) (hr : ∀ b ∈ (blocksM T).1, b.length ≤ 1000000000)
    (hobj : h[id]? = some (.cells 46 (areaC T cap))) {Q : AV → List AObj → Prop}
    (hQ : Q (resB (recsM d T)) h) : CallW Try.prog 22 [dcbA d, .arr id 0 T.length cap] h Q := by
  have h0 := records_sound d T hT hs hb hr
  refine callW_lendD (T := 1) (pre := [dcbA d]) (post := []) (ag := false) (sz := 1) (e := 46) (cs := areaC T cap) (r := resB (recsM d T)) rfl ?_ hobj (by omega) (.inr rfl) (by simp [areaC]) (by rw [areaC_take]; simp) (by rw [areaC_take]; simp) (by rw [areaC_take]; simp [arL, AV.isL2]) ?_ (by simpa [resB] using hQ)
  · rw [areaC_take]
    simpa [chunk_arL] using h0
  · simp [resB, AV.dpR, AV.dpT, deepL_bbL]

def recC49 (r : Rec) : List AV := [.v (.int .i64 r.R), .lst .any 1 (byL r.key), .lst .any 1 (byL r.data), .v (.bool r.bad)]
def ord9 : Ord := .one 0 <| .one 1 <| .one 2 <| .one 3 <| .one 4 <| .one 5 <| .one 6 <| .one 8 <| .two 7 9 (.one 9 <| .one 10 <| .one 11 <| .one 12 .done) (.one 7 <| .one 10 <| .one 11 <| .one 12 .done)

theorem after_sound (d : Dcb) (l : List (List UInt8)) (a : List (List Rec)) (r : Rec) (hl : l.length ≤ 9223372036854775807) (ha : a.length ≤ 9223372036854775807) (hs : ∀ t ∈ a, t.length ≤ 9223372036854775807 ∧ ∀ r ∈ t, r.key.length ≤ 140737488355328 ∧ r.data.length ≤ 140737488355328) (hrk : r.key.length ≤ 140737488351232 ∧ r.data.length ≤ 140737488351232) :
    Sound Try.prog 8 [dcbA d, .lst .any 1 (bbL l), .lst .any 1 (arL a), recA r] (.v (.bool true)) := by
  refine sound_of_W Try.func8 rfl (by decide +kernel) (by simp [Try.f8]) rfl rfl (rs := [.tmp 8]) rfl ?_
  rw [show Try.f8.ntmps = 103 from rfl]
  obtain ⟨f1, f2⟩ := few_small l
  obtain ⟨L, hL⟩ : ∃ L, fewM l = L := ⟨_, rfl⟩
  have hfew := few_sound l hl
  rw [hL] at hfew f1 f2
  have hr : ∀ r ∈ L, r.length ≤ 1000000000 := fun r hr => by have := f2 r hr; omega
  have ht := tracks_sound d L (by omega) hr
  have htk := tracks_ok d L
  refine W_evK [1, 2, 4, 7] (by simp; rfl) ?_
  refine W_seq ?_
  refine W_rK [1, 2, 4, 7, 21] ?_
  refine runA_call (by simp) (by first | (simp; done) | (simp; rfl)) works_sound (by simp; rfl) ?_
  refine runA_fin (by simp; rfl) ?_
  refine W_cond rfl (fun h => by simp at h) (fun h => ?_)
  refine W_skip ?_
  rcases hbm : blockM d L with ⟨bs, e⟩
  have hT : tracksM d L = if e = 0 then (layM bs, 0) else ([], e) := by unfold tracksM; rw [hbm]
  by_cases z : e = 0
  rotate_left
  · rw [hT, if_neg z] at ht
    have zn : (e != 0) = true := by simpa using z
    refine W_rdK [2, 4, 7, 9, 10] mx (by decide +kernel) ?_
    refine runD_pre 2 (by simp; rfl) rfl ?_
    refine runD_call (by simp) (by first | (simp; done) | (simp; rfl)) hfew (by simp; rfl) ?_
    refine runD_call (by simp) (by first | (simp; done) | (simp; rfl)) ht (by simp [resT]; rfl) ?_
    refine runD_fin (by simp [resT]; rfl) ?_
    refine W_seq ?_
    refine W_evK [2, 4, 7, 9, 10, 35] (by simp [zn]; rfl) ?_
    refine W_cond rfl (fun h => ?_) (fun h => by simp at h)
    refine W_evK [8] (by simp [zn]; rfl) ?_
    refine W_ret ?_
    repeat (first | refine on_ret ?_ | refine in_ret ?_)
    simp [retQ]
  subst z
  obtain ⟨hc1, hsm⟩ := block_small hbm
  rw [hT, if_pos rfl] at ht htk
  have hbk := back_ok hsm
  have hblk := blocks_lay hsm []
  rw [List.append_nil] at hblk
  obtain ⟨T0, t0, hTe, haft⟩ := blocks_after hsm [r] (fewT a)
  obtain ⟨T, hTT⟩ : ∃ T, layM bs = T := ⟨_, rfl⟩
  rw [hTT] at ht htk hbk hblk hTe
  have hT1 : T.length ≤ 100000 := htk.1
  have hT2 : ∀ t ∈ T, trSm t := fun t h => ⟨by have := (htk.2 t h).1; omega, (htk.2 t h).2⟩
  have hTp : 0 < T.length := by rw [hTe]; simp
  have hrm : recsM d T = (L, 0) := by unfold recsM; rw [hblk]; simp [returns hbm]
  have hTn : T ≠ [] := hbk.ne
  have hTi : ((T.length : Int) == 0) = false := by simp [hTn]
  refine W_rmK 3 4 [2, 4, 7, 9, 10] mx (by decide +kernel) ?_
  refine runD_pre 2 (by simp; rfl) rfl ?_
  refine runD_call (by simp) (by first | (simp; done) | (simp; rfl)) hfew (by simp; rfl) ?_
  refine runA_obj (f := 12) (args := [dcbA d, .lst (.tip 47 51) 1 (bbL L)]) (by simp) (by simp) (callW_thawT (vs := [.int .i64 0]) (by simpa [resT] using ht) (catK_arL T) (thwL_arL T) (fun h0 => ?_) (fun cap h1 h2 => ?_))
  · have : T.length = 0 := by simpa using congrArg List.length h0
    omega
  rw [arL_length, weakL_arL, Nat.mul_one]
  rw [arL_length] at h1
  refine ⟨_, by simp; rfl, ?_⟩
  refine runD_fin (by simp; rfl) ?_
  rw [show arL T ++ List.replicate (cap - T.length) AV.any = areaC T cap from rfl]
  refine W_seq ?_
  refine W_evK [2, 4, 7, 9, 10, 35] (by simp [hTi]; rfl) ?_
  refine W_cond rfl (fun h => by simp at h) (fun h => ?_)
  refine W_skip ?_
  refine W_rK [2, 4, 7, 9, 11, 12] ?_
  refine runA_pre 1 (by simp; rfl) rfl ?_
  refine runA_obj (f := 27) (args := [.arr 2 0 T.length cap]) (by simp) (by simp) (blocks_lent hT1 hT2 (by simp) ?_)
  rw [hblk]
  refine ⟨_, by simp [resB]; rfl, ?_⟩
  refine runA_fin (by simp [resB]; rfl) ?_
  refine W_rK [2, 4, 7, 9, 11, 12, 13, 14] ?_
  refine runA_pre 2 (by simp; rfl) rfl ?_
  refine runA_obj (f := 22) (args := [dcbA d, .arr 2 0 T.length cap]) (by simp) (by simp) (records_lent hT1 hT2 (by rw [hblk]; simp; omega) (by rw [hblk]; intro b hb; have := (hsm b hb).2; omega) (by simp) ?_)
  rw [hrm]
  refine ⟨_, by simp [resB]; rfl, ?_⟩
  refine runA_fin (by simp [resB]; rfl) ?_
  have hm : T.length = T0.length + 1 := by rw [hTe]; simp
  obtain ⟨m, hm0⟩ : ∃ m, T0.length = m := ⟨_, rfl⟩
  rw [hm0] at hm
  have wm : IntKind.i64.wrap ((T.length : Int) - 1) = (m : Nat) := by rw [w64 (by omega) (by omega)]; omega
  have hmi : (m : Int) < T.length := by omega
  have hmn : m < T.length := by omega
  have hta : t0 ∈ T := by rw [hTe]; simp
  have htl := (htk.2 t0 hta).1
  have hTm : T[m]? = some t0 := by rw [hTe, ← hm0]; simp
  have hcl : m < (areaC T cap).length := by simp [areaC]; omega
  have hcg : (areaC T cap)[m]? = some (.lst .any 4 (trL t0)) := by
    rw [areaC, List.getElem?_append_left (by simp; omega)]
    simp only [arL, List.getElem?_map, hTm, Option.map_some]
  have hcg2 : (areaC T cap)[m]'hcl = .lst .any 4 (trL t0) := by rw [List.getElem?_eq_getElem hcl] at hcg; exact Option.some.inj hcg
  have hcl' : m + 1 ≤ (areaC T cap).length := hcl
  have b1 : t0.length * 64 ≤ 140737488355328 := by omega
  have b2 : (t0.length + 1) * 64 ≤ 140737488355328 := by omega
  refine W_evK [2, 4, 7, 9, 11, 12, 13, 14, 15] (by simp [wm]; rfl) ?_
  refine W_seqC (fun s => ∃ fr, s = ⟨103, fr, [.cells 23 (dcbC d), .cells 49 (recC49 r), .cells 46 (areaS T0 (t0 ++ [r]) T cap)]⟩ ∧ FrOk [(2, .lst .any 1 (arL a)), (4, .loc 0 0), (9, .arr 2 0 T.length cap), (11, .lst .any 1 (bbL bs)), (12, .v (.int .i64 0)), (13, .lst .any 1 (bbL L)), (14, .v (.int .i64 0))] fr) ?_ ?_
  · refine W_any 11 rfl ?_
    refine W_any 13 rfl ?_
    refine W_ord (fun _ => false) ord9 mx (by decide +kernel) ?_
    refine evO_runO _ _ _ (by simp [evO, ord9, roAt, hmi, hmn, hcl, hcl', hcg, hcg2, setSeg, b1, b2]; rfl) ?_
    intro s' hs'
    simp only [List.mem_append, List.mem_singleton, List.mem_cons, List.not_mem_nil, or_false] at hs'
    rcases hs' with rfl | rfl
    · exact ⟨_, Seen.refl _ _, _, by simp [dcbC, recC49, areaS, hm0, trL_append, trL_cons]; rfl, by simp [FrOk, getF]⟩
    · exact ⟨_, Seen.refl _ _, _, by simp [dcbC, recC49, areaS, hm0, trL_append, trL_cons]; rfl, by simp [FrOk, getF]⟩
  rintro _ ⟨fr, rfl, hfr⟩
  refine W_at ⟨rfl, rfl, hfr⟩ ?_
  have hlT : T.length ≤ 5000 := by
    have := (foldl_place_len (bs ++ [[]]) ([], [])).1
    rw [← hTT]
    simp [layM] at this ⊢
    omega
  have htk9 : (areaS T0 (t0 ++ [r]) T cap).take (T.length * 1) = arL T0 ++ [.lst (.tip 49 119) 4 (trL (t0 ++ [r]))] := by rw [hTe]; exact areaS_take
  have hlen9 : (areaS T0 (t0 ++ [r]) T cap).length = cap := areaS_length (by omega) h1
  obtain ⟨U, hU⟩ : ∃ U, T0 ++ [t0 ++ [r]] = U := ⟨_, rfl⟩
  have hUl : U.length = T.length := by rw [← hU, hTe]; simp
  have hch : chunk false 1 T.length (AV.weakL ((areaS T0 (t0 ++ [r]) T cap).take (T.length * 1))) = arL U := by
    rw [htk9, weakL_append, weakL_arL, ← hUl, ← chunk_arL U, ← hU, arL_append]
    simp [arL]
  refine W_tip 9 (tk := 1) (ty := 46) (sz := 1) (ag := false) rfl (by decide) rfl (by kernel_rfl) (by omega) (.inr rfl) (by omega) (by rw [htk9, koneL_app]; simp) (by rw [htk9, rfL_append]; simp) ?_
  rw [hch]
  have hft := fewT_sound a ha hs
  have hfo := fewT_few a
  rw [hU] at haft
  have hX1 : (U ++ fewT a).length ≤ 100000 := by have := hfo.1; simp; omega
  have hX2 : ∀ l ∈ U ++ fewT a, trBg l := by
    intro l hl
    rcases List.mem_append.1 hl with h | h
    · rw [← hU] at h
      rcases List.mem_append.1 h with h | h
      · exact (hT2 l (by rw [hTe]; simp [h])).big
      · simp at h
        subst h
        refine ⟨by simp; omega, fun q hq => ?_⟩
        rcases List.mem_append.1 hq with h | h
        · exact (hT2 t0 hta).big.2 q h
        · simp at h; subst h; exact hrk.2
    · exact ⟨by have := (hfo.2 l h).1; omega, fun q hq => by have := ((hfo.2 l h).2 q hq).2; omega⟩
  have hB2 := blocks_soundB _ hX1 hX2
  have hR2 := records_soundB d _ hX1 hX2 (by rw [haft]; simp; omega) (by rw [haft]; intro b hb; have := (hsm b hb).2; omega)
  rw [haft] at hB2
  have hrm2 : recsM d (U ++ fewT a) = (L, 0) := by unfold recsM; rw [haft]; simp [returns hbm]
  rw [hrm2] at hR2
  have bb : (U.length + (fewT a).length) * 24 ≤ 140737488355328 := by have := hfo.1; omega
  refine W_rK [4, 9, 11, 12, 13, 14] ?_
  refine runA_pre 2 (by simp [putF]; rfl) rfl ?_
  refine runA_call (by simp) (by first | (simp; done) | (simp; rfl)) hft (by simp; rfl) ?_
  refine runA_fin (by simp [bb, ← arL_append, dcbC]; rfl) ?_
  have hs1 := lsame_sound bs bs (by omega)
  have hs2 := lsame_sound L L (by omega)
  rw [decide_eq_true rfl] at hs1 hs2
  refine W_rK [4, 9, 11, 12, 13, 14, 16, 17] ?_
  refine runA_pre 1 (by simp; rfl) rfl ?_
  refine runA_call (by simp) (by first | (simp; done) | (simp; rfl)) hB2 (by simp [resB]; rfl) ?_
  refine runA_fin (by simp [resB]; rfl) ?_
  refine W_rK [11, 12, 13, 14, 16, 17, 18, 19] ?_
  refine runA_pre 2 (by simp; rfl) rfl ?_
  refine runA_call (by simp) (by first | (simp; done) | (simp; rfl)) hR2 (by simp [resB]; rfl) ?_
  refine runA_fin (by simp [resB]; rfl) ?_
  refine W_rK [8] ?_
  refine runA_pre 6 (by simp; rfl) rfl ?_
  refine runA_pre 6 (by simp; rfl) rfl ?_
  refine runA_pre 5 (by simp; rfl) rfl ?_
  refine runA_call (by simp) (by first | (simp; done) | (simp; rfl)) hs1 (by simp; rfl) ?_
  refine runA_pre 4 (by simp; rfl) rfl ?_
  refine runA_call (by simp) (by first | (simp; done) | (simp; rfl)) hs2 (by simp; rfl) ?_
  refine runA_fin (by simp; rfl) ?_
  refine W_ret ?_
  repeat (first | refine on_ret ?_ | refine in_ret ?_)
  simp [retQ]
end Go.AM
