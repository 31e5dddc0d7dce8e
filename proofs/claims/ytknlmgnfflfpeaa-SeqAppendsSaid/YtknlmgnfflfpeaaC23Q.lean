/- seq.records, seq.Blocks. -/
import Derived.Test.YtknlmgnfflfpeaaC23P
namespace Go.AM
open Go.RowKit Go.Proofs
set_option linter.unusedSimpArgs false
set_option linter.unusedVariables false
set_option maxHeartbeats 1000000

theorem recs_callW (t : List Rec) (h : List AObj) (hh : underH (h.length + 1) h = true) : CallW Try.prog 45 [.lst .any 4 (trL t)] h fun r h' => r = .fn (.func 62) [] [.loc h.length 0] ∧ h' = h ++ [.cells 46 [.lst .any 4 (trL t)]] := by
  refine callW_of_W Try.func45 rfl (by decide +kernel) (by simp [Try.f45]) (rs := [.tmp 2]) rfl ?_
  rw [show Try.f45.ntmps = 4 from rfl]
  refine W_evK [1] (by simp; rfl) ?_
  refine W_evK [2] (by simp; rfl) ?_
  refine W_ret ?_
  repeat (first | refine on_ret ?_ | refine in_ret ?_)
  refine ⟨.inr rfl, .fn (.func 62) [] [.loc h.length 0], .fn (.func 62) [] [.loc h.length 0], h ++ [.cells 46 [.lst .any 4 (trL t)]], h.length + 1, by simp, .inl ⟨rfl, by simp⟩, by omega, by simp, by simp [AV.under, AV.underL], ?_, rfl, ?_⟩
  · rw [List.take_of_length_le (by simp), underH_app, hh]
    simp [underH, frUnder, AObj.under, AV.under, AV.underL]
  · rw [List.take_of_length_le (by simp)]

def rk (n : Nat) (r : Rec) : Nat := if r.bad = true ∨ r.key ≠ [] ∨ r.R ≠ (n : Nat) then 2 else if r.data = [] then 1 else 0
def trk : Nat → List Rec → List (List UInt8) → Nat × List (List UInt8)
  | _, [], o => (0, o)
  | n, r :: t, o => if rk (n + 1) r = 0 then trk (n + 1) t (o ++ [r.data]) else (rk (n + 1) r, o)
def blkGo : List (List Rec) → List (List UInt8) → List (List UInt8) × Int
  | [], _ => ([], 5)
  | t :: l, o => if (trk 0 t o).1 = 0 then blkGo l (trk 0 t o).2 else if (trk 0 t o).1 = 1 then ((trk 0 t o).2, 0) else ([], 5)
def blocksM (t : List (List Rec)) : List (List UInt8) × Int := blkGo t []
def outB (x : AV) (O : List (List UInt8)) : Prop := (O = [] ∧ x = .lst .nil 1 []) ∨ x = .lst (.tip 47 87) 1 (bbL O)
theorem outB_under {x : AV} {O : List (List UInt8)} (h : outB x O) (m : Nat) : x.under m = true := by
  rcases h with ⟨_, rfl⟩ | rfl <;> simp [AV.under, AV.underL]

def trBg (t : List Rec) : Prop := t.length ≤ 1000000 ∧ ∀ r ∈ t, r.data.length ≤ 140737488351232
theorem trSm.big {t : List Rec} (h : trSm t) : trBg t := ⟨h.1, fun r hr => by have := (h.2 r hr).2; omega⟩
theorem blocks_soundB (t : List (List Rec)) (ht : t.length ≤ 100000) (hs : ∀ l ∈ t, trBg l) : Sound Try.prog 27 [.lst .any 1 (arL t)] (resB (blocksM t)) := by
  refine sound_of_U Try.func27 rfl (by decide +kernel) (by simp [Try.f27]) rfl rfl (rs := [.cell 2 24, .cell 3 27]) rfl ?_
  rw [show Try.f27.ntmps = 48 from rfl]
  refine W_evK [0, 2, 3] (by simp; rfl) ?_
  refine W_scope ?_
  refine W_evK [0, 2, 3, 4] (by simp; rfl) ?_
  refine W_evK [0, 2, 3, 4, 5] (by simp [setSeg]; rfl) ?_
  refine W_seq ?_
  refine W_label ?_
  refine W_seq ?_
  refine W_evK [2, 3, 4, 5, 10, 11, 12] (by simp; rfl) ?_
  refine W_block ?_
  obtain ⟨B, hB⟩ : ∃ B, blocksM t = B := ⟨_, rfl⟩
  rw [hB]
  refine W_loop (fun k s => ∃ (i : Nat) (o : List (List UInt8)) (x : AV), k = t.length - i ∧ i ≤ t.length ∧ blkGo (t.drop i) o = B ∧ outB x o ∧ o.length ≤ 1000000 * i ∧
      s = ⟨48, [(2, .loc 0 0), (3, .loc 1 0), (4, .loc 2 0), (5, .loc 3 0), (10, .lst .any 1 (arL t)), (11, .v (.int .i64 (t.length : Nat))), (12, .v (.int .i64 (i : Nat)))], [.cells 24 [.lst .nil 1 []], .cells 27 [.v (.int .i64 0)], .cells 24 [x], .cells 4 [.v (.bool false)]]⟩) (k := t.length)
      ⟨0, [], _, rfl, by omega, hB, .inl ⟨rfl, rfl⟩, by simp, by simp⟩ ?_
  rintro k s ⟨i, o, x, rfl, hi, hgo, hx, ho, rfl⟩
  by_cases c : i < t.length
  · have ci : (i : Int) < t.length := by omega
    obtain ⟨l, hli⟩ : ∃ l, t[i]? = some l := ⟨_, List.getElem?_eq_getElem c⟩
    have hl2 : t[i]'c = l := by rw [List.getElem?_eq_getElem c] at hli; exact Option.some.inj hli
    have hsm := hs l (List.mem_of_getElem? hli)
    have wi := w64 (n := (i : Int) + 1) (by omega) (by omega)
    have hdr : t.drop i = l :: t.drop (i + 1) := by rw [List.drop_eq_getElem_cons c, hl2]
    rw [hdr, blkGo] at hgo
    refine W_evK [2, 3, 4, 5, 10, 11, 12, 13] (by simp [c]; rfl) ?_
    refine W_seq ?_
    refine W_cond rfl (fun h => ?_) (fun h => by simp at h)
    refine W_skip ?_
    refine W_seq ?_
    refine W_block ?_
    refine W_evK [2, 3, 4, 5, 10, 11, 12, 7] (by simp [c, ci, hl2]; rfl) ?_
    refine W_rK [2, 3, 4, 5, 10, 11, 12, 17] ?_
    refine runA_pre 1 (by simp; rfl) rfl ?_
    refine runA_obj (f := 45) (args := [.lst .any 4 (trL l)]) (by simp) (by simp) ((recs_callW l _ (by simp [underH, frUnder, AObj.under, AV.under, AV.underL, outB_under hx])).mono ?_)
    rintro r h' ⟨rfl, rfl⟩
    refine ⟨_, by simp; rfl, ?_⟩
    refine runA_fin (by simp; rfl) ?_
    refine W_block ?_
    refine W_rangeFunc (Qc := fun _ h' => ∃ o' x' st, outB x' o' ∧ o'.length ≤ o.length + l.length ∧
      h' = [.cells 24 [.lst .nil 1 []], .cells 27 [.v (.int .i64 (if st = 2 then 5 else 0))], .cells 24 [x'], .cells 4 [.v (.bool (st == 1))], .cells 46 [.lst .any 4 (trL l)], .loop 48 [(2, .loc 0 0), (3, .loc 1 0), (4, .loc 2 0), (5, .loc 3 0), (10, .lst .any 1 (arL t)), (11, .v (.int .i64 (t.length : Nat))), (12, .v (.int .i64 (i : Nat))), (17, .fn (.func 62) [] [.loc 4 0])] [18, 19] (rfA Try.f27) (rfB Try.f27) (if st = 0 then .ready else if st = 1 then .done (.exit 0) else .done .ret)] ∧
      trk 0 l o = (st, o') ∧ st < 3) rfl ?_ ?_
    · refine callW_of_W Try.func62 rfl (by decide +kernel) (by simp [Try.f62]) (rs := []) rfl ?_
      rw [show Try.f62.ntmps = 19 from rfl]
      refine W_evK [0, 5, 6, 7] (by simp; rfl) ?_
      refine W_block ?_
      refine W_loop (fun k s => ∃ (j : Nat) (o' : List (List UInt8)) (x' : AV), k = l.length - j ∧ j ≤ l.length ∧ trk 0 l o = trk j (l.drop j) o' ∧ outB x' o' ∧ o'.length ≤ o.length + j ∧
        s = ⟨19, [(0, .yld 5), (5, .lst .any 4 (trL l)), (6, .v (.int .i64 (l.length : Nat))), (7, .v (.int .i64 (j : Nat)))],
          [.cells 24 [.lst .nil 1 []], .cells 27 [.v (.int .i64 0)], .cells 24 [x'], .cells 4 [.v (.bool false)], .cells 46 [.lst .any 4 (trL l)], .loop 48 [(2, .loc 0 0), (3, .loc 1 0), (4, .loc 2 0), (5, .loc 3 0), (10, .lst .any 1 (arL t)), (11, .v (.int .i64 (t.length : Nat))), (12, .v (.int .i64 (i : Nat))), (17, .fn (.func 62) [] [.loc 4 0])] [18, 19] (rfA Try.f27) (rfB Try.f27) .ready]⟩) (k := l.length) ⟨0, o, x, rfl, by omega, rfl, hx, by omega, ?_⟩ ?_
      · simp [AV.weak]
        exact ⟨rfl, rfl, rfl⟩
      rintro k s ⟨j, o', x', rfl, hj, htr, hx', ho', rfl⟩
      by_cases d : j < l.length
      · have dj : (j : Int) < l.length := by omega
        obtain ⟨r, hrj⟩ : ∃ r, l[j]? = some r := ⟨_, List.getElem?_eq_getElem d⟩
        have hr2 : l[j]'d = r := by rw [List.getElem?_eq_getElem d] at hrj; exact Option.some.inj hrj
        have hrs := hsm.2 r (List.mem_of_getElem? hrj)
        have wj := w64 (n := (j : Int) + 1) (by omega) (by have := hsm.1; omega)
        have hdl : l.drop j = r :: l.drop (j + 1) := by rw [List.drop_eq_getElem_cons d, hr2]
        rw [hdl, trk] at htr
        refine W_evK [0, 5, 6, 7, 8] (by simp [d]; rfl) ?_
        refine W_seq ?_
        refine W_cond rfl (fun h => ?_) (fun h => by simp at h)
        refine W_skip ?_
        refine W_seq ?_
        refine W_block ?_
        refine W_evK [0, 5, 6, 7, 3, 4] (by simp [d, dj, hr2, setSeg]; rfl) ?_
        refine W_rK [0, 5, 6, 7, 17] ?_
        refine runA_pre 4 (by simp [wj]; rfl) rfl ?_
        refine runA_y (by simp) ?_
        unfold callY
        dsimp only
        refine ⟨5, 48, _, _, _, _, [.v (.int .i64 ((j : Int) + 1)), recA r], by simp, rfl, by simp, by simp, by simp, by simp, ?_⟩
        refine (show Wt _ _ _ _ _ _ from ?_)
        refine W_evK [2, 3, 4, 5, 19, 8] (by simp [setF]; rfl) ?_
        refine W_evE [2, 3, 4, 5, 8, 9] (by simp [setSeg]; rfl) ?_
        refine ⟨rfl, _, _, _, _, _, rfl, ?_⟩
        refine W_block ?_
        refine W_seq ?_
        refine W_seqC (fun s => s = ⟨48, [(2, .loc 0 0), (3, .loc 1 0), (4, .loc 2 0), (5, .loc 3 0), (9, .loc 7 0), (33, .v (.bool (decide (rk (j + 1) r = 2))))], [.cells 24 [.lst .nil 1 []], .cells 27 [.v (.int .i64 0)], .cells 24 [x'], .cells 4 [.v (.bool false)], .cells 46 [.lst .any 4 (trL l)], .loop 48 [(2, .loc 0 0), (3, .loc 1 0), (4, .loc 2 0), (5, .loc 3 0), (10, .lst .any 1 (arL t)), (11, .v (.int .i64 (t.length : Nat))), (12, .v (.int .i64 (i : Nat))), (17, .fn (.func 62) [] [.loc 4 0])] [18, 19] (rfA Try.f27) (rfB Try.f27) .busy, .cells 49 [.v (.int .i64 r.R), .lst .any 1 (byL r.key), .lst .any 1 (byL r.data), .v (.bool r.bad)], .cells 49 [.v (.int .i64 r.R), .lst .any 1 (byL r.key), .lst .any 1 (byL r.data), .v (.bool r.bad)]]⟩) ?_ ?_
        · by_cases e1 : r.bad = true
          · have hk : rk (j + 1) r = 2 := by simp [rk, e1]
            refine W_rE [2, 3, 4, 5, 9, 33] ?_
            refine runA_pre 6 (by simp [e1]; rfl) rfl ?_
            refine runA_pre 6 (by simp [e1]; rfl) rfl ?_
            refine runA_fin (by simp; rfl) ?_
            simp [onNormal, hk, e1, setF, AV.weak, AV.weakL]
          · have e1' : r.bad = false := by simpa using e1
            by_cases e2 : r.key = []
            · by_cases e3 : r.R = (j : Int) + 1
              · have hk : rk (j + 1) r ≠ 2 := by simp [rk, e1', e2, e3]; split <;> simp
                refine W_rE [2, 3, 4, 5, 9, 33] ?_
                refine runA_pre 6 (by simp [e1', e2]; rfl) rfl ?_
                refine runA_pre 6 (by simp [e1', e2, e3]; rfl) rfl ?_
                refine runA_fin (by simp [e3]; rfl) ?_
                simp [onNormal, hk, e1', e2, e3]
              · have e3' : (r.R != (j : Int) + 1) = true := by simpa using e3
                have hk : rk (j + 1) r = 2 := by simp [rk]; intro _ _ h; exact absurd h e3
                refine W_rE [2, 3, 4, 5, 9, 33] ?_
                refine runA_pre 6 (by simp [e1', e2]; rfl) rfl ?_
                refine runA_pre 6 (by simp [e1', e2, e3']; rfl) rfl ?_
                refine runA_fin (by simp [e3']; rfl) ?_
                simp [onNormal, hk, e1', e2, e3']
            · have e2' : 0 < r.key.length := List.length_pos_iff.2 e2
              have hk : rk (j + 1) r = 2 := by simp [rk, e2]
              refine W_rE [2, 3, 4, 5, 9, 33] ?_
              refine runA_pre 6 (by simp [e1', e2']; rfl) rfl ?_
              refine runA_pre 6 (by simp [e1', e2, e2']; rfl) rfl ?_
              refine runA_fin (by simp; rfl) ?_
              simp [onNormal, hk, e1', e2]
        rintro _ rfl
        by_cases e4 : rk (j + 1) r = 2
        · rw [if_neg (by omega), e4] at htr
          rw [decide_eq_true e4]
          refine W_cond rfl (fun h => ?_) (fun h => by simp at h)
          refine W_evK [] (by simp [setSeg]; rfl) ?_
          refine W_ret ?_
          repeat (first | refine on_ret ?_ | refine in_ret ?_)
          refine ⟨48, _, _, _, _, .done .ret, false, 7, rfl, rfl, by simp, by simp, ?_, ?_⟩
          · simp [underH, frUnder, AObj.under, AV.under, AV.underL, outB_under hx']
          refine ⟨_, by simp; rfl, ?_⟩
          refine runA_fin (by simp; rfl) ?_
          refine W_cond rfl (fun h => ?_) (fun h => by simp at h)
          refine W_ret ?_
          repeat (first | refine on_ret ?_ | refine in_ret ?_)
          refine ⟨.inr rfl, .tup [], .tup [], _, 6, rfl, .inl ⟨rfl, rfl⟩, by simp, by simp, rfl, ?_, ?_⟩
          · simp [underH, frUnder, AObj.under, AV.under, AV.underL, outB_under hx']
          · refine ⟨o', x', 2, hx', by omega, ?_, htr, by omega⟩
            simp
        · have hb3 : r.bad = false ∧ r.key = [] ∧ r.R = (j : Int) + 1 := by
            refine ⟨?_, ?_, ?_⟩ <;> (refine Classical.byContradiction fun h => e4 ?_) <;> simp [rk, h]
            all_goals (intro _ _ h2; exact absurd h2 h)
          rw [decide_eq_false e4]
          refine W_cond rfl (fun h => by simp at h) (fun h => ?_)
          refine W_skip ?_
          refine W_seq ?_
          by_cases e5 : r.data = []
          · have hk : rk (j + 1) r = 1 := by simp [rk, hb3, e5]
            rw [hk, if_neg (by omega)] at htr
            refine W_seq ?_
            refine W_evE [5, 37] (by simp [e5]; rfl) ?_
            refine W_cond rfl (fun h => ?_) (fun h => by simp at h)
            refine W_evK [] (by simp [setSeg]; rfl) ?_
            refine W_exit ?_
            refine ⟨48, _, _, _, _, .done (.exit 0), false, 7, rfl, rfl, by simp, by simp, ?_, ?_⟩
            · simp [underH, frUnder, AObj.under, AV.under, AV.underL, outB_under hx']
            refine ⟨_, by simp; rfl, ?_⟩
            refine runA_fin (by simp; rfl) ?_
            refine W_cond rfl (fun h => ?_) (fun h => by simp at h)
            refine W_ret ?_
            repeat (first | refine on_ret ?_ | refine in_ret ?_)
            refine ⟨.inr rfl, .tup [], .tup [], _, 6, rfl, .inl ⟨rfl, rfl⟩, by simp, by simp, rfl, ?_, ?_⟩
            · simp [underH, frUnder, AObj.under, AV.under, AV.underL, outB_under hx']
            · refine ⟨o', x', 1, hx', by omega, ?_, htr, by omega⟩
              simp
          · have hk : rk (j + 1) r = 0 := by simp [rk, hb3, e5]
            rw [hk, if_pos rfl] at htr
            have e5' : (r.data.length == 0) = false := by simpa using e5
            refine W_seq ?_
            refine W_evE [2, 3, 4, 5, 9, 37] (by simp [e5']; rfl) ?_
            refine W_cond rfl (fun h => by simp at h; exact absurd h e5) (fun h => ?_)
            refine W_skip ?_
            have bo : (o'.length + 1) * 24 ≤ 140737488355328 := by have := hsm.1; omega
            have bo' : 24 * (o'.length + 1) ≤ 140737488355328 := by omega
            rcases hx' with ⟨h0, rfl⟩ | rfl
            · subst h0
              refine W_rdE [2] mx (by decide +kernel) ?_
              refine runD_pre 3 (by simp; rfl) rfl ?_
              refine runD_call (by simp) (by first | (simp; done) | (simp; rfl)) (bclone_sound r.data hrs) (by simp; rfl) ?_
              refine runD_fin (by simp [setSeg, catK, AV.cellsK, AV.kone, AV.koneL]; rfl) ?_
              refine ⟨48, _, _, _, _, .ready, true, 7, rfl, rfl, by simp, by simp, ?_, ?_⟩
              · simp [underH, frUnder, AObj.under, AV.under, AV.underL]
              refine ⟨_, by simp; rfl, ?_⟩
              refine runA_fin (by simp; rfl) ?_
              refine W_cond rfl (fun h => by simp at h) (fun h => ?_)
              refine W_keepS [0, 5, 6, 7] ?_
              refine W_cutH 6 (by simp) (by simp) rfl (by simp [underH, frUnder, AObj.under, AV.under, AV.underL]) ?_
              refine W_skip ?_
              refine W_evE [0, 5, 6, 7] (by simp [wj]; rfl) ?_
              refine ⟨_, by omega, j + 1, _, _, rfl, by omega, htr, .inr rfl, by simp; omega, ?_⟩
              simp [bbL_append, bbL_cons]
            · refine W_rdE [2] mx (by decide +kernel) ?_
              refine runD_pre 3 (by simp; rfl) rfl ?_
              refine runD_call (by simp) (by first | (simp; done) | (simp; rfl)) (bclone_sound r.data hrs) (by simp; rfl) ?_
              refine runD_fin (by simp [setSeg, catK, AV.cellsK, AV.kone, AV.koneL, bo, bo']; rfl) ?_
              refine ⟨48, _, _, _, _, .ready, true, 7, rfl, rfl, by simp, by simp, ?_, ?_⟩
              · simp [underH, frUnder, AObj.under, AV.under, AV.underL]
              refine ⟨_, by simp; rfl, ?_⟩
              refine runA_fin (by simp; rfl) ?_
              refine W_cond rfl (fun h => by simp at h) (fun h => ?_)
              refine W_keepS [0, 5, 6, 7] ?_
              refine W_cutH 6 (by simp) (by simp) rfl (by simp [underH, frUnder, AObj.under, AV.under, AV.underL]) ?_
              refine W_skip ?_
              refine W_evE [0, 5, 6, 7] (by simp [wj]; rfl) ?_
              refine ⟨_, by omega, j + 1, _, _, rfl, by omega, htr, .inr rfl, by simp; omega, ?_⟩
              simp [bbL_append, bbL_cons]
      · refine W_evK [0, 5, 6, 7, 8] (by simp [d]; rfl) ?_
        refine W_seq ?_
        refine W_cond rfl (fun h => by simp at h) (fun h => ?_)
        refine W_exit ?_
        have hje : j = l.length := by omega
        subst hje
        rw [List.drop_length, trk] at htr
        refine ⟨.inl rfl, .tup [], .tup [], _, 6, rfl, .inl ⟨rfl, rfl⟩, by simp, by simp, rfl, ?_, ?_⟩
        · simp [underH, frUnder, AObj.under, AV.under, AV.underL, outB_under hx']
        · refine ⟨o', x', 0, hx', by omega, ?_, htr, by omega⟩
          simp
    · rintro _ _ ⟨o', x', st, hx', ho', rfl, htr, h3⟩
      rw [htr] at hgo
      dsimp only at hgo
      refine ⟨48, _, _, _, _, _, rfl, ?_⟩
      obtain rfl | rfl | rfl : st = 0 ∨ st = 1 ∨ st = 2 := by omega
      · rw [if_pos rfl] at hgo
        refine (show Wt true 0 Try.prog _ _ _ from ?_)
        refine W_keepS [2, 3, 4, 5, 10, 11, 12] ?_
        refine W_cutH 4 (by simp) (by simp) rfl (by simp [underH, frUnder, AObj.under, AV.under, AV.underL, outB_under hx']) ?_
        refine W_evE [2, 3, 4, 5, 10, 11, 12] (by simp [wi]; rfl) ?_
        refine ⟨_, by omega, i + 1, o', x', rfl, by omega, hgo, hx', by have := hsm.1; omega, ?_⟩
        simp
      · rw [if_neg (by omega), if_pos rfl] at hgo
        subst hgo
        refine (show Wt true 0 Try.prog _ _ _ from ?_)
        refine W_keepS [2, 3, 4, 5] ?_
        refine W_seq ?_
        refine W_seq ?_
        refine W_evE [2, 3, 4, 46] (by simp; rfl) ?_
        refine W_cond rfl (fun h => by simp at h) (fun h => ?_)
        refine W_skip ?_
        rcases hx' with ⟨h0, rfl⟩ | rfl
        · subst h0
          refine W_evK [2, 3] (by simp [setSeg]; rfl) ?_
          refine W_ret ?_
          repeat (first | refine on_ret ?_ | refine in_ret ?_)
          exact ⟨.tup [.lst .nil 1 [], .v (.int .i64 0)], by simp [noGo, retQ], .tup2 (.nil (by decide +kernel)) (.refl _)⟩
        · refine W_evK [2, 3] (by simp [setSeg]; rfl) ?_
          refine W_ret ?_
          repeat (first | refine on_ret ?_ | refine in_ret ?_)
          exact ⟨_, by simp [noGo, retQ]; exact ⟨rfl, by simp⟩, .norm fun T => by simp [resB]⟩
      · rw [if_neg (by omega), if_neg (by omega)] at hgo
        subst hgo
        refine (show noGo _ .ret _ from ?_)
        exact ⟨.tup [.lst .nil 1 [], .v (.int .i64 5)], by simp [noGo, retQ], .tup2 (.nil (by decide +kernel)) (.refl _)⟩
  · refine W_evK [2, 3, 4, 5, 10, 11, 12, 13] (by simp [c]; rfl) ?_
    refine W_seq ?_
    refine W_cond rfl (fun h => by simp at h) (fun h => ?_)
    refine W_exit ?_
    have hie : i = t.length := by omega
    subst hie
    rw [List.drop_length, blkGo] at hgo
    subst hgo
    refine W_seq ?_
    refine W_seq ?_
    refine W_evE [2, 3, 46] (by simp; rfl) ?_
    refine W_cond rfl (fun h => ?_) (fun h => by simp at h)
    refine W_evK [2, 3] (by simp [setSeg]; rfl) ?_
    refine W_ret ?_
    repeat (first | refine on_ret ?_ | refine in_ret ?_)
    exact ⟨.tup [.lst .nil 1 [], .v (.int .i64 5)], by simp [noGo, retQ], .tup2 (.nil (by decide +kernel)) (.refl _)⟩
theorem blocks_sound (t : List (List Rec)) (ht : t.length ≤ 100000) (hs : ∀ l ∈ t, trSm l) : Sound Try.prog 27 [.lst .any 1 (arL t)] (resB (blocksM t)) := blocks_soundB t ht fun l hl => (hs l hl).big
end Go.AM
