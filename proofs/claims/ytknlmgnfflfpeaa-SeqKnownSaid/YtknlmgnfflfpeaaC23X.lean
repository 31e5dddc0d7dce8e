/- SeqKnown: a table of contracts; the walk. -/
import Derived.Test.YtknlmgnfflfpeaaC23S
namespace Go.AM
open Go.RowKit Go.Proofs
set_option linter.unusedSimpArgs false
set_option linter.unusedVariables false
set_option maxHeartbeats 1000000
set_option maxRecDepth 100000

def isRet : Exit → Bool
  | .ret => true
  | _ => false
theorem W_run {P : Program} {kn : KnF} (hkn : KnOk P kn) (hm : P.follows .mixedOrders = true) (n : Nat) (rs : List ResultVar) (v : Value) {top : Bool} {kf : Nat} {code : Code} {Q : Exit → St → Prop} {s : St}
    (h : ((exec P kn n top code s).map fun p => (isRet p.1, resA P p.2 rs)) = some (true, some (.v v))) (hQ : ∀ s', resA P s' rs = some (.v v) → Q .ret s') : Wt top kf P code Q s := by
  obtain ⟨⟨e, s'⟩, h1, h2⟩ := Option.map_eq_some_iff.1 h
  simp only [Prod.mk.injEq] at h2
  refine exec_sound hkn hm n top kf code s e s' Q h1 ?_
  cases e with
  | ret => exact hQ s' h2.2
  | _ => exact absurd h2.1 (by simp [isRet])

def bbSm (l : List (List UInt8)) : Bool := decide (l.length ≤ 10000) && l.all fun t => decide (t.length ≤ 10000)
def arSm (a : List (List Rec)) : Bool := decide (a.length ≤ 1000) && a.all fun t => decide (t.length ≤ 1000) && t.all fun r => decide (r.key.length ≤ 10000) && decide (r.data.length ≤ 10000)
theorem bbSm_spec {l : List (List UInt8)} (h : bbSm l = true) : l.length ≤ 10000 ∧ ∀ t ∈ l, t.length ≤ 10000 := by
  simpa [bbSm] using h
theorem arSm_spec {a : List (List Rec)} (h : arSm a = true) : a.length ≤ 1000 ∧ ∀ t ∈ a, trSm t := by
  simp only [arSm, Bool.and_eq_true, List.all_eq_true, decide_eq_true_eq] at h
  exact ⟨h.1, fun t ht => ⟨by have := (h.2 t ht).1; omega, fun r hr => ⟨by have := ((h.2 t ht).2 r hr).1; omega, by have := ((h.2 t ht).2 r hr).2; omega⟩⟩⟩
def knS : KnF := fun f args =>
  if f = 16 then (if args = [] then some (.v (.bool true)) else none)
  else if f = 12 then match args with
    | [x, .lst .any 1 y] => (dcbOf x).bind fun d => (bbOf y).bind fun l => if bbSm l = true then some (resT (tracksM d l)) else none
    | _ => none
  else if f = 13 then match args with
    | [x, .lst .any 1 y] => (dcbOf x).bind fun d => (bbOf y).bind fun l => if bbSm l = true then some (.tup [.v (.int .i64 ((tracksM d l).1.length : Nat)), .v (.int .i64 (tracksM d l).2)]) else none
    | _ => none
  else if f = 20 then match args with
    | [x, .lst .any 1 a, .lst .any 1 y] => (dcbOf x).bind fun d => (arOf a).bind fun A => (bbOf y).bind fun l => if (bbSm l && arSm A && bbSm (blocksM A).1) = true then some (resT (appendM d A l)) else none
    | _ => none
  else if f = 22 then match args with
    | [x, .lst .any 1 a] => (dcbOf x).bind fun d => (arOf a).bind fun A => if (arSm A && bbSm (blocksM A).1) = true then some (resB (recsM d A)) else none
    | _ => none
  else if f = 27 then match args with
    | [.lst .any 1 a] => (arOf a).bind fun A => if arSm A = true then some (resB (blocksM A)) else none
    | _ => none
  else if f = 23 then match args with
    | [.lst .any 1 a, .lst .any 1 b] => (bbOf a).bind fun A => (bbOf b).bind fun B => if bbSm A = true then some (.v (.bool (decide (A = B)))) else none
    | _ => none
  else none
theorem knS_ok : KnOk Try.prog knS := by
  intro f args r h
  unfold knS at h
  split at h
  · rename_i hf
    subst hf
    split at h
    · rename_i ha
      subst ha
      cases h
      exact works_sound
    · cases h
  split at h
  · rename_i hf
    subst hf
    split at h
    · rename_i x y
      obtain ⟨d, hd, h⟩ := Option.bind_eq_some_iff.1 h
      obtain ⟨l, hl, h⟩ := Option.bind_eq_some_iff.1 h
      split at h
      · rename_i hc
        cases h
        obtain ⟨h1, h2⟩ := bbSm_spec hc
        rw [dcbOf_eq hd, bbOf_eq hl]
        exact tracks_sound d l (by omega) fun t ht => by have := h2 t ht; omega
      · cases h
    · cases h
  split at h
  · rename_i hf
    subst hf
    split at h
    · rename_i x y
      obtain ⟨d, hd, h⟩ := Option.bind_eq_some_iff.1 h
      obtain ⟨l, hl, h⟩ := Option.bind_eq_some_iff.1 h
      split at h
      · rename_i hc
        cases h
        obtain ⟨h1, h2⟩ := bbSm_spec hc
        rw [dcbOf_eq hd, bbOf_eq hl]
        exact need_sound d l (by omega) fun t ht => by have := h2 t ht; omega
      · cases h
    · cases h
  split at h
  · rename_i hf
    subst hf
    split at h
    · rename_i x a y
      obtain ⟨d, hd, h⟩ := Option.bind_eq_some_iff.1 h
      obtain ⟨A, hA, h⟩ := Option.bind_eq_some_iff.1 h
      obtain ⟨l, hl, h⟩ := Option.bind_eq_some_iff.1 h
      split at h
      · rename_i hc
        cases h
        simp only [Bool.and_eq_true] at hc
        obtain ⟨h1, h2⟩ := bbSm_spec hc.1.1
        obtain ⟨h3, h4⟩ := arSm_spec hc.1.2
        obtain ⟨h5, h6⟩ := bbSm_spec hc.2
        rw [dcbOf_eq hd, bbOf_eq hl, arOf_eq hA]
        exact append23_sound d A l (by omega) h4 (by omega) (fun t ht => by have := h6 t ht; omega) (by omega) fun t ht => by have := h2 t ht; omega
      · cases h
    · cases h
  split at h
  · rename_i hf
    subst hf
    split at h
    · rename_i x a
      obtain ⟨d, hd, h⟩ := Option.bind_eq_some_iff.1 h
      obtain ⟨A, hA, h⟩ := Option.bind_eq_some_iff.1 h
      split at h
      · rename_i hc
        cases h
        simp only [Bool.and_eq_true] at hc
        obtain ⟨h3, h4⟩ := arSm_spec hc.1
        obtain ⟨h5, h6⟩ := bbSm_spec hc.2
        rw [dcbOf_eq hd, arOf_eq hA]
        exact records_sound d A (by omega) h4 (by omega) (fun t ht => by have := h6 t ht; omega)
      · cases h
    · cases h
  split at h
  · rename_i hf
    subst hf
    split at h
    · rename_i a
      obtain ⟨A, hA, h⟩ := Option.bind_eq_some_iff.1 h
      split at h
      · rename_i hc
        cases h
        obtain ⟨h3, h4⟩ := arSm_spec hc
        rw [arOf_eq hA]
        exact blocks_sound A (by omega) h4
      · cases h
    · cases h
  split at h
  · rename_i hf
    subst hf
    split at h
    · rename_i a b
      obtain ⟨A, hA, h⟩ := Option.bind_eq_some_iff.1 h
      obtain ⟨B, hB, h⟩ := Option.bind_eq_some_iff.1 h
      split at h
      · rename_i hc
        cases h
        obtain ⟨h1, h2⟩ := bbSm_spec hc
        rw [bbOf_eq hA, bbOf_eq hB]
        exact lsame_sound A B (by omega)
      · cases h
    · cases h
  · cases h

def recE : AV := .lst .ex 1 [.v (.int .u8 1), .v (.int .u8 2)]
def exM (i : Nat) : List AV := List.replicate i recE
@[simp] theorem exM_length (i : Nat) : (exM i).length = i := by simp [exM]
theorem exM_succ (i : Nat) : exM i ++ [recE] = exM (i + 1) := by simp [exM, List.replicate_succ']
@[simp] theorem rfL_exM (i : Nat) : AV.rfL (exM i) = true := by induction i <;> simp_all [exM, recE, List.replicate_succ, AV.rfL, AV.rf]
@[simp] theorem tlL_exM (i : Nat) : AV.tlL (exM i) = true := by induction i <;> simp_all [exM, recE, List.replicate_succ, AV.tlL, AV.tl]
@[simp] theorem toksL_exM (i : Nat) : AV.toksL (exM i) = [] := by induction i <;> simp_all [exM, recE, List.replicate_succ, AV.toksL, AV.toks]
@[simp] theorem underL_exM (m i : Nat) : AV.underL m (exM i) = true := by induction i <;> simp_all [exM, recE, List.replicate_succ, AV.underL, AV.under]
@[simp] theorem killSL_exM (T : List Nat) (i : Nat) : AV.killSL T (exM i) = exM i := killSL_tl _ (tlL_exM i)
@[simp] theorem killL_exM (T : Nat) (i : Nat) : AV.killL T (exM i) = exM i := killL_tl _ (tlL_exM i)
@[simp] theorem weakL_exM (i : Nat) : AV.weakL (exM i) = exM i := by induction i <;> simp_all [exM, recE, List.replicate_succ, AV.weakL, AV.weak]
theorem range2 : ([0, 1] = List.range 2) = True := by simp [List.range, List.range.loop]
theorem known_sound : Sound Try.prog 10 [] (.v (.bool true)) := by
  refine sound_of_W Try.func10 rfl (by decide +kernel) (by simp [Try.f10]) rfl rfl (rs := [.tmp 0]) rfl ?_
  rw [show Try.f10.ntmps = 184 from rfl]
  refine W_evK [] (by simp; rfl) ?_
  refine W_evK [1] (by simp; rfl) ?_
  refine W_seq ?_
  refine W_evK [1, 2] (by simp; rfl) ?_
  refine W_block ?_
  refine W_loop (fun k s => ∃ (i : Nat) (x : AV), k = 4097 - i ∧ i ≤ 4097 ∧ ((i = 0 ∧ x = .lst .nil 1 []) ∨ x = .lst (.tip 47 71) 1 (exM i)) ∧ s = ⟨184, [(1, x), (2, .v (.int .i64 (i : Nat)))], []⟩) (k := 4097) ⟨0, _, rfl, by omega, .inl ⟨rfl, rfl⟩, by simp⟩ ?_
  rintro k s ⟨i, x, rfl, hi, hx, rfl⟩
  refine W_seq ?_
  by_cases c : i < 4097
  · have ci : (i : Int) < 4097 := by omega
    have wi := w64 (n := (i : Int) + 1) (by omega) (by omega)
    have b1 : (i + 1) * 24 ≤ 140737488355328 := by omega
    have b2 : 24 * (i + 1) ≤ 140737488355328 := by omega
    refine W_evK [1, 2, 29] (by simp [ci]; rfl) ?_
    refine W_cond rfl (fun h => ?_) (fun h => by simp at h)
    refine W_skip ?_
    refine W_seq ?_
    refine W_block ?_
    rcases hx with ⟨h0, rfl⟩ | rfl
    · subst h0
      refine W_evE [1, 2] (by simp [range2, catK, AV.cellsK, AV.kone, AV.koneL]; rfl) ?_
      refine W_evE [1, 2] (by simp [show IntKind.i64.wrap 1 = 1 from rfl]; rfl) ?_
      exact ⟨_, by omega, 1, _, rfl, by omega, .inr rfl, by simp [exM, recE]⟩
    · refine W_evE [1, 2] (by simp [range2, catK, AV.cellsK, AV.kone, AV.koneL, b1, b2]; rfl) ?_
      refine W_evE [1, 2] (by simp [wi]; rfl) ?_
      exact ⟨_, by omega, i + 1, _, rfl, by omega, .inr rfl, by simp [← exM_succ, recE, wi]⟩
  · have ci : ¬ (i : Int) < 4097 := by omega
    have hie : i = 4097 := by omega
    subst hie
    rcases hx with ⟨h0, rfl⟩ | rfl
    · cases h0
    refine W_evK [1, 2, 29] (by simp; rfl) ?_
    refine W_cond rfl (fun h => by simp at h) (fun h => ?_)
    refine W_exit ?_
    refine (show Wt true 0 Try.prog _ _ _ from ?_)
    refine W_run knS_ok mx 300 [.tmp 0] (.bool true) (by kernel_rfl) fun s' h => ?_
    exact ⟨.inr rfl, _, _, h, rfl, rfl⟩
end Go.AM
