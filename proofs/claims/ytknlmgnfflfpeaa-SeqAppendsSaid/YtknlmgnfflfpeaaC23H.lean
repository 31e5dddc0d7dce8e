/- bytes.Clone; layout. -/
import Derived.Test.YtknlmgnfflfpeaaC23G
namespace Go.AM
open Go.RowKit Go.Proofs
set_option linter.unusedSimpArgs false
set_option linter.unusedVariables false
set_option maxHeartbeats 1000000

theorem W_dpB {top : Bool} {kf : Nat} {P : Program} {code : Code} {Q : Exit → St → Prop} {s : St} (b : Nat) {ty : TypeId} {cs : List AV} (hb : s.h[b]? = some (.cells ty cs)) (h : Wt top kf P code Q ⟨s.n, s.fr, s.h.set b (.cells ty (AV.dpL cs))⟩) : Wt top kf P code Q s := by
  refine W_conv (fun c w a hs => ?_) h
  refine ⟨hs.n, hs.base, hs.fr, ⟨by simp only [List.length_set]; exact hs.h.no, hs.h.lt, hs.h.inj, fun i o hi => ?_⟩, hs.dfr⟩
  simp only at hi
  rw [List.getElem?_set] at hi
  split at hi
  · rename_i e
    subst e
    split at hi
    · cases hi
      obtain ⟨h1, h2, h3, cur, h4, h5, h6⟩ := hs.h.obj b _ hb
      refine ⟨h1, h2, h3, cur, h4, by rw [dpL_length]; exact h5, fun j y hj => ?_⟩
      rw [dpL_get] at hj
      obtain ⟨x, hx, rfl⟩ := Option.map_eq_some_iff.1 hj
      obtain ⟨k1, _, k3⟩ := h6 j x hx
      exact ⟨k1.dp, .none (AV.tl_dp _), k3⟩
    · cases hi
  · exact hs.h.obj i o hi

theorem bclone_sound (l : List UInt8) (hl : l.length ≤ 140737488351232) : Sound Try.prog 46 [.lst .any 1 (byL l)] (.lst (.tip 5 1) 1 (byL l)) := by
  refine sound_of_U Try.func46 rfl (by decide +kernel) (by simp [Try.f46]) rfl rfl (rs := [.tmp 2]) rfl ?_
  rw [show Try.f46.ntmps = 8 from rfl]
  have hb : l.length ≤ 140737488355328 := by omega
  refine W_evK [0] (by simp; rfl) ?_
  refine W_seq ?_
  cases l with
  | cons x l =>
    refine W_evK [0, 4] (by simp [byL_cons]; rfl) ?_
    refine W_cond rfl (fun h => by simp at h) (fun h => ?_)
    refine W_skip ?_
    rw [← byL_cons]
    refine W_evK [2] (by simp at hb; simp [hb]; rfl) ?_
    refine W_ret ?_
    repeat (first | refine on_ret ?_ | refine in_ret ?_)
    exact ⟨_, by simp [retQ]; exact ⟨rfl, by simp⟩, .norm fun T => by simp⟩
  | nil =>
    refine W_nilCases 0 (sz := 1) rfl ?_ fun ad cap hc => ?_
    · refine W_evK [0, 4] (by simp [putF]; rfl) ?_
      refine W_cond rfl (fun h => ?_) (fun h => by simp at h)
      refine W_evK [2] (by simp; rfl) ?_
      refine W_ret ?_
      repeat (first | refine on_ret ?_ | refine in_ret ?_)
      exact ⟨.lst .nil 1 [], by simp [retQ], .nil (by decide +kernel)⟩
    · refine W_evK [0, 4] (by simp [putF]; rfl) ?_
      refine W_cond rfl (fun h => by simp at h) (fun h => ?_)
      refine W_skip ?_
      refine W_keepS [0] ?_
      refine W_unnil 0 1 (by simp; rfl) hc ?_
      refine W_evK [2] (by simp [putF]; rfl) ?_
      refine W_ret ?_
      repeat (first | refine on_ret ?_ | refine in_ret ?_)
      exact ⟨_, by simp [retQ]; exact ⟨rfl, by simp⟩, .norm fun T => by simp⟩

def newR (now : List Rec) (data : List UInt8) : Rec := ⟨((now.length + 1 : Nat) : Int), [], data, false⟩
def placeM (p : List (List Rec) × List Rec) (data : List UInt8) : List (List Rec) × List Rec :=
  if fitsT p.2 (newR p.2 data) = true then (p.1, p.2 ++ [newR p.2 data]) else (p.1 ++ [p.2], [⟨1, [], data, false⟩])
def layM (blocks : List (List UInt8)) : List (List Rec) := let p := (blocks ++ [[]]).foldl placeM ([], []); p.1 ++ [p.2]
def outT (x : AV) (O : List (List Rec)) : Prop := (O = [] ∧ x = .lst .nil 1 []) ∨ x = .lst (.tip 46 37) 1 (arL O)
def nowT (x : AV) (t : List Rec) : Prop := (t = [] ∧ x = .lst .nil 4 []) ∨ x = .lst (.tip 49 47) 4 (trL t)
def recC (r : Rec) : List AV := [.v (.int .i64 r.R), .lst .any 1 (byL r.key), .lst .any 1 (byL r.data), .v (.bool r.bad)]
theorem arL_cons (t : List Rec) (a : List (List Rec)) : arL (t :: a) = .lst .any 4 (trL t) :: arL a := rfl
theorem arL_snoc (a : List (List Rec)) (t : List Rec) : arL a ++ [.lst .any 4 (trL t)] = arL (a ++ [t]) := by simp [arL_append, arL_cons]

theorem place_callW (O : List (List Rec)) (now : List Rec) (data : List UInt8) (fl : Fl) (x y : AV) (hx : outT x O) (hy : nowT y now) (hO : O.length ≤ 1000000) (hn : now.length < 1000000) (hs : ∀ r ∈ now, recSm r) (hd : data.length ≤ 1000000000) :
    CallW Try.prog 52 [.lst fl 1 (byL data), .loc 1 0, .loc 0 0] [.cells 26 [x], .cells 46 [y]] fun r h' => r = .tup [] ∧ ∃ x' y', outT x' (placeM (O, now) data).1 ∧ nowT y' (placeM (O, now) data).2 ∧ h' = [.cells 26 [x'], .cells 46 [y']] := by
  refine callW_of_W Try.func52 rfl (by decide +kernel) (by simp [Try.f52]) (rs := []) rfl ?_
  rw [show Try.f52.ntmps = 24 from rfl]
  have wl : IntKind.i64.wrap ((now.length : Int) + 1) = ((now.length + 1 : Nat) : Int) := by rw [w64 (by omega) (by omega)]; omega
  have hr : recSm (newR now data) := ⟨by simp [newR], by simpa [newR] using hd⟩
  have hfs := fits15_sound now (newR now data) ⟨by omega, hs⟩ hr
  refine W_seqC (fun s => s = ⟨24, [(1, .loc 1 0), (2, .loc 0 0), (4, .loc 2 0)], [.cells 26 [x], .cells 46 [y], .cells 49 [.v (.int .i64 (now.length + 1 : Nat)), .lst .nil 1 [], .lst (.tip 5 19) 1 (byL data), .v (.bool false)]]⟩) ?_ ?_
  · rcases hy with ⟨h0, rfl⟩ | rfl
    · subst h0
      refine W_rdE [1, 2, 4] mx (by decide +kernel) ?_
      refine runD_pre 4 (by simp; rfl) rfl ?_
      refine runD_call (by simp) (by first | (simp; done) | (simp; rfl)) (bclone_sound data (by omega)) (by simp; rfl) ?_
      refine runD_fin (by simp [setSeg]; rfl) ?_
      simp [onNormal, show IntKind.i64.wrap 1 = 1 from rfl]
    · refine W_rdE [1, 2, 4] mx (by decide +kernel) ?_
      refine runD_pre 4 (by simp [wl, -Int.natCast_add]; rfl) rfl ?_
      refine runD_call (by simp) (by first | (simp; done) | (simp; rfl)) (bclone_sound data (by omega)) (by simp; rfl) ?_
      refine runD_fin (by simp [setSeg]; rfl) ?_
      simp [onNormal]
  rintro _ rfl
  refine W_dpB 2 rfl ?_
  have hrc : AV.dpL [.v (.int .i64 (now.length + 1 : Nat)), .lst .nil 1 [], .lst (.tip 5 19) 1 (byL data), .v (.bool false)] = recC (newR now data) := by simp [AV.dpL, AV.dp, recC, newR]
  rw [hrc]
  have hset : ([.cells 26 [x], .cells 46 [y], .cells 49 [.v (.int .i64 (now.length + 1 : Nat)), .lst .nil 1 [], .lst (.tip 5 19) 1 (byL data), .v (.bool false)]] : List AObj).set 2 (.cells 49 (recC (newR now data))) = [.cells 26 [x], .cells 46 [y], .cells 49 (recC (newR now data))] := rfl
  simp only [hset]
  have fin : ∀ (x' y' : AV) (o : AObj), o.under 3 = true → outT x' (placeM (O, now) data).1 → nowT y' (placeM (O, now) data).2 → retW Try.prog [] 2 (fun r h' => r = .tup [] ∧ ∃ x' y', outT x' (placeM (O, now) data).1 ∧ nowT y' (placeM (O, now) data).2 ∧ h' = [.cells 26 [x'], .cells 46 [y']]) .normal
      ⟨24, [], [.cells 26 [x'], .cells 46 [y'], o]⟩ := by
    intro x' y' o ho h1 h2
    refine ⟨.inl rfl, .tup [], .tup [], _, 2, rfl, .inl ⟨rfl, rfl⟩, by simp, by simp, rfl, ?_, rfl, x', y', h1, h2, rfl⟩
    rcases h1 with ⟨_, rfl⟩ | rfl <;> rcases h2 with ⟨_, rfl⟩ | rfl <;> simp [underH, AObj.under, AV.underL, AV.under]
  refine W_seq ?_
  have b1 : (O.length + 1) * 24 ≤ 140737488355328 := by omega
  have b2 : 24 * (O.length + 1) ≤ 140737488355328 := by omega
  have b3 : (now.length + 1) * 64 ≤ 140737488355328 := by omega
  have b4 : 64 * (now.length + 1) ≤ 140737488355328 := by omega
  cases hf : fitsT now (newR now data) with
  | true =>
    rw [hf] at hfs
    have hP : placeM (O, now) data = (O, now ++ [newR now data]) := by simp [placeM, hf]
    rw [hP] at fin ⊢
    rcases hy with ⟨h0, rfl⟩ | rfl
    · subst h0
      refine W_rK [1, 2, 4, 14] ?_
      refine runA_pre 2 (by simp [recC]; rfl) rfl ?_
      refine runA_call (by simp) (by first | (simp; done) | (simp; rfl)) hfs (by simp; rfl) ?_
      refine runA_fin (by simp; rfl) ?_
      refine W_cond rfl (fun h => by simp at h) (fun h => ?_)
      refine W_skip ?_
      refine W_evE [] (by simp [recC, setSeg, catK, AV.cellsK, AV.kone, AV.koneL]; rfl) ?_
      have h1 := fin x (.lst (.tip 49 47) 4 (trL ([] ++ [newR [] data]))) (.cells 49 (recC (newR [] data))) (by simp [AObj.under, recC, AV.underL, AV.under]) hx (.inr rfl)
      simpa [recC, trL_cons, onNormal] using h1
    · refine W_rK [1, 2, 4, 14] ?_
      refine runA_pre 2 (by simp [recC]; rfl) rfl ?_
      refine runA_call (by simp) (by first | (simp; done) | (simp; rfl)) hfs (by simp; rfl) ?_
      refine runA_fin (by simp; rfl) ?_
      refine W_cond rfl (fun h => by simp at h) (fun h => ?_)
      refine W_skip ?_
      have hxk : x.kill 47 = x := by
        rcases hx with ⟨_, rfl⟩ | rfl
        · rfl
        · simp [AV.kill]
      refine W_evE [] (by simp [recC, setSeg, catK, AV.cellsK, AV.kone, AV.koneL, b3, b4, hxk]; rfl) ?_
      have h1 := fin x (.lst (.tip 49 47) 4 (trL (now ++ [newR now data]))) (.cells 49 (recC (newR now data))) (by simp [AObj.under, recC, AV.underL, AV.under]) hx (.inr rfl)
      simpa [recC, trL_append, trL_cons, onNormal, AV.killL, AV.kill] using h1
  | false =>
    rw [hf] at hfs
    have hP : placeM (O, now) data = (O ++ [now], [⟨1, [], data, false⟩]) := by simp [placeM, hf]
    rw [hP] at fin ⊢
    have hend : retW Try.prog [] 2 (fun r h' => r = .tup [] ∧ ∃ x' y', outT x' (O ++ [now]) ∧ nowT y' [⟨1, [], data, false⟩] ∧ h' = [.cells 26 [x'], .cells 46 [y']]) .normal
      ⟨24, [], [.cells 26 [.lst (.tip 46 37) 1 (arL (O ++ [now]))], .cells 46 [.lst (.tip 49 47) 4 (trL [⟨1, [], data, false⟩])], .cells 49 (recC ⟨1, [], data, false⟩)]⟩ :=
      fin _ _ _ (by simp [AObj.under, recC, AV.underL, AV.under]) (.inr rfl) (.inr rfl)
    have ff : (newR now data).key = [] ∧ (newR now data).data = data ∧ (newR now data).bad = false := ⟨rfl, rfl, rfl⟩
    rcases hy with ⟨h0, rfl⟩ | rfl
    · subst h0
      refine W_rK [1, 2, 4, 14] ?_
      refine runA_pre 2 (by simp [recC]; rfl) rfl ?_
      refine runA_call (by simp) (by first | (simp; done) | (simp; rfl)) hfs (by simp; rfl) ?_
      refine runA_fin (by simp; rfl) ?_
      refine W_cond rfl (fun h => ?_) (fun h => by simp at h)
      rcases hx with ⟨h0, rfl⟩ | rfl
      · subst h0
        refine W_evK [1, 2, 4] (by simp [recC, setSeg, catK, AV.cellsK, AV.kone, AV.koneL]; rfl) ?_
        refine W_evE [1, 2, 4] (by simp [recC, setSeg]; rfl) ?_
        refine W_evE [] (by simp [recC, setSeg, catK, AV.cellsK, AV.kone, AV.koneL]; rfl) ?_
        simpa [recC, trL_cons, arL_cons, onNormal, AV.killL, AV.kill, newR] using hend
      · refine W_evK [1, 2, 4] (by simp [recC, setSeg, catK, AV.cellsK, AV.kone, AV.koneL, b1, b2]; rfl) ?_
        refine W_evE [1, 2, 4] (by simp [recC, setSeg]; rfl) ?_
        refine W_evE [] (by simp [recC, setSeg, catK, AV.cellsK, AV.kone, AV.koneL]; rfl) ?_
        simpa [recC, trL_cons, arL_cons, arL_append, onNormal, AV.killL, AV.kill, newR] using hend
    · refine W_rK [1, 2, 4, 14] ?_
      refine runA_pre 2 (by simp [recC]; rfl) rfl ?_
      refine runA_call (by simp) (by first | (simp; done) | (simp; rfl)) hfs (by simp; rfl) ?_
      refine runA_fin (by simp; rfl) ?_
      refine W_cond rfl (fun h => ?_) (fun h => by simp at h)
      rcases hx with ⟨h0, rfl⟩ | rfl
      · subst h0
        refine W_evK [1, 2, 4] (by simp [recC, setSeg, catK, AV.cellsK, AV.kone, AV.koneL]; rfl) ?_
        refine W_evE [1, 2, 4] (by simp [recC, setSeg]; rfl) ?_
        refine W_evE [] (by simp [recC, setSeg, catK, AV.cellsK, AV.kone, AV.koneL]; rfl) ?_
        simpa [recC, trL_cons, arL_cons, onNormal, AV.killL, AV.kill, newR] using hend
      · refine W_evK [1, 2, 4] (by simp [recC, setSeg, catK, AV.cellsK, AV.kone, AV.koneL, b1, b2]; rfl) ?_
        refine W_evE [1, 2, 4] (by simp [recC, setSeg]; rfl) ?_
        refine W_evE [] (by simp [recC, setSeg, catK, AV.cellsK, AV.kone, AV.koneL]; rfl) ?_
        simpa [recC, trL_cons, arL_cons, arL_append, onNormal, AV.killL, AV.kill, newR] using hend
end Go.AM
