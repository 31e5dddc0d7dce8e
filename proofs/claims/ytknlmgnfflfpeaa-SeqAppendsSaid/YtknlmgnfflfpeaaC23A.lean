/- Records and tracks as abstract values; track.Cost, Used, valid, Valid, Fits. -/
import Derived.Test.YtknlmgnfflfpeaaP22L
namespace Go.AM
open Go.RowKit Go.Proofs
set_option linter.unusedSimpArgs false
set_option linter.unusedVariables false
set_option maxHeartbeats 1000000

structure Rec where
  R : Int
  key : List UInt8
  data : List UInt8
  bad : Bool
  deriving DecidableEq
@[simp] def recA (r : Rec) : AV := .agg [.v (.int .i64 r.R), .lst .any 1 (byL r.key), .lst .any 1 (byL r.data), .v (.bool r.bad)]
def trL (t : List Rec) : List AV := t.map recA

@[simp] theorem trL_length (L : List Rec) : (trL L).length = L.length := by simp [trL]
@[simp] theorem trL_nil : trL [] = [] := rfl
theorem trL_cons (b : Rec) (L : List Rec) : trL (b :: L) = recA b :: trL L := rfl
theorem trL_append (L M : List Rec) : trL (L ++ M) = trL L ++ trL M := by simp [trL]
theorem trL_take (L : List Rec) (n : Nat) : trL (L.take n) = (trL L).take n := by simp [trL]
theorem trL_drop (L : List Rec) (n : Nat) : trL (L.drop n) = (trL L).drop n := by simp [trL]
theorem trL_get (L : List Rec) (i : Nat) : (trL L)[i]? = (L[i]?).map recA := by simp [trL]
@[simp] theorem trL_getElem (L : List Rec) (i : Nat) (h : i < (trL L).length) : (trL L)[i] = recA (L[i]'(by simpa using h)) := by simp [trL]
@[simp] theorem rfL_trL (L : List Rec) : AV.rfL (trL L) = true := by induction L <;> simp_all [trL, AV.rfL, AV.rf]
@[simp] theorem tlL_trL (L : List Rec) : AV.tlL (trL L) = true := by induction L <;> simp_all [trL, AV.tlL, AV.tl]
@[simp] theorem toksL_trL (L : List Rec) : AV.toksL (trL L) = [] := by induction L <;> simp_all [trL, AV.toksL, AV.toks]
@[simp] theorem underL_trL (m : Nat) (L : List Rec) : AV.underL m (trL L) = true := by induction L <;> simp_all [trL, AV.underL, AV.under]
@[simp] theorem killSL_trL (T : List Nat) (L : List Rec) : AV.killSL T (trL L) = trL L := killSL_tl _ (tlL_trL L)
@[simp] theorem killL_trL (T : Nat) (L : List Rec) : AV.killL T (trL L) = trL L := killL_tl _ (tlL_trL L)
@[simp] theorem weakL_trL (L : List Rec) : AV.weakL (trL L) = trL L := by induction L <;> simp_all [trL, AV.weakL, AV.weak]
@[simp] theorem dpL_trL (L : List Rec) : AV.dpL (trL L) = trL L := by induction L <;> simp_all [trL, AV.dpL, AV.dp]
@[simp] theorem normL_trL (T : Nat) (L : List Rec) : AV.normL T (trL L) = trL L := by induction L <;> simp_all [trL, AV.normL, AV.norm]

def arL (a : List (List Rec)) : List AV := a.map fun t => .lst .any 4 (trL t)
@[simp] theorem arL_length (L : List (List Rec)) : (arL L).length = L.length := by simp [arL]
@[simp] theorem arL_nil : arL [] = [] := rfl
theorem arL_append (L M : List (List Rec)) : arL (L ++ M) = arL L ++ arL M := by simp [arL]
theorem arL_take (L : List (List Rec)) (n : Nat) : arL (L.take n) = (arL L).take n := by simp [arL]
theorem arL_drop (L : List (List Rec)) (n : Nat) : arL (L.drop n) = (arL L).drop n := by simp [arL]
@[simp] theorem arL_getElem (L : List (List Rec)) (i : Nat) (h : i < (arL L).length) : (arL L)[i] = .lst .any 4 (trL (L[i]'(by simpa using h))) := by simp [arL]
@[simp] theorem rfL_arL (L : List (List Rec)) : AV.rfL (arL L) = true := by induction L <;> simp_all [arL, AV.rfL, AV.rf]
@[simp] theorem tlL_arL (L : List (List Rec)) : AV.tlL (arL L) = true := by induction L <;> simp_all [arL, AV.tlL, AV.tl]
@[simp] theorem toksL_arL (L : List (List Rec)) : AV.toksL (arL L) = [] := by induction L <;> simp_all [arL, AV.toksL, AV.toks]
@[simp] theorem underL_arL (m : Nat) (L : List (List Rec)) : AV.underL m (arL L) = true := by induction L <;> simp_all [arL, AV.underL, AV.under]
@[simp] theorem killSL_arL (T : List Nat) (L : List (List Rec)) : AV.killSL T (arL L) = arL L := killSL_tl _ (tlL_arL L)
@[simp] theorem killL_arL (T : Nat) (L : List (List Rec)) : AV.killL T (arL L) = arL L := killL_tl _ (tlL_arL L)
@[simp] theorem weakL_arL (L : List (List Rec)) : AV.weakL (arL L) = arL L := by induction L <;> simp_all [arL, AV.weakL, AV.weak]
@[simp] theorem dpL_arL (L : List (List Rec)) : AV.dpL (arL L) = arL L := by induction L <;> simp_all [arL, AV.dpL, AV.dp]
@[simp] theorem normL_arL (T : Nat) (L : List (List Rec)) : AV.normL T (arL L) = arL L := by induction L <;> simp_all [arL, AV.normL, AV.norm]
@[simp] theorem koneL_arL (L : List (List Rec)) : AV.koneL (arL L) = true := by induction L <;> simp_all [arL, AV.koneL, AV.kone]
@[simp] theorem catK_arL (L : List (List Rec)) : catK 1 (arL L) = some (arL L) := by induction L <;> simp_all [arL, catK, AV.cellsK, AV.kone]

def findRF : Code → Option (Code × Code)
  | .rangeFunc _ _ a b => some (a, b)
  | .seq x y => match findRF x with
    | some r => some r
    | none => findRF y
  | .cond _ x y => match findRF x with
    | some r => some r
    | none => findRF y
  | .block _ x => findRF x
  | .loop x => findRF x
  | .scope x => findRF x
  | _ => none
def rfA (f : Func) : Code := ((f.body.bind findRF).getD (.skip, .skip)).1
def rfB (f : Func) : Code := ((f.body.bind findRF).getD (.skip, .skip)).2

def costM (r : Rec) : Nat := 32 + r.data.length + (if r.key = [] then 0 else 16 + r.key.length)
def recSm (r : Rec) : Prop := r.key.length ≤ 1000000000 ∧ r.data.length ≤ 1000000000
theorem costM_le {r : Rec} (h : recSm r) : costM r ≤ 3000000000 := by unfold costM; obtain ⟨h1, h2⟩ := h; split <;> omega
theorem cost_sound (r : Rec) (h : recSm r) : Sound Try.prog 44 [recA r] (.v (.int .i64 (costM r : Nat))) := by
  refine sound_of_W Try.func44 rfl (by decide +kernel) (by simp [Try.f44]) rfl rfl (rs := [.tmp 2]) rfl ?_
  rw [show Try.f44.ntmps = 20 from rfl]
  obtain ⟨h1, h2⟩ := h
  have w1 : IntKind.i64.wrap (32 + (r.data.length : Int)) = ((32 + r.data.length : Nat) : Int) := by rw [w64 (by omega) (by omega)]; omega
  have w2 : IntKind.i64.wrap (((32 + r.data.length : Nat) : Int) + 16) = ((32 + r.data.length + 16 : Nat) : Int) := by rw [w64 (by omega) (by omega)]; omega
  have w3 : IntKind.i64.wrap (((32 + r.data.length + 16 : Nat) : Int) + (r.key.length : Int)) = ((32 + r.data.length + 16 + r.key.length : Nat) : Int) := by rw [w64 (by omega) (by omega)]; omega
  refine W_evK [1] (by simp; rfl) ?_
  refine W_seq ?_
  by_cases c : r.key = []
  · have hc : costM r = 32 + r.data.length := by unfold costM; rw [if_pos c]; omega
    rw [hc]
    refine W_evK [1, 6] (by simp [c]; rfl) ?_
    refine W_cond rfl (fun h => ?_) (fun h => by simp at h)
    refine W_evK [2] (by simp [w1, -Int.natCast_add]; rfl) ?_
    refine W_ret ?_
    repeat (first | refine on_ret ?_ | refine in_ret ?_)
    simp [retQ]
  · have hc : costM r = 32 + r.data.length + 16 + r.key.length := by unfold costM; rw [if_neg c]; omega
    have hl : r.key.length ≠ 0 := fun e => c (List.eq_nil_of_length_eq_zero e)
    have hli : ((r.key.length : Int) == 0) = false := beq_eq_false_iff_ne.2 (by omega)
    rw [hc]
    refine W_evK [1, 6] (by simp [c, hli, hl]; rfl) ?_
    refine W_cond rfl (fun h => by simp at h) (fun h => ?_)
    refine W_skip ?_
    refine W_rK [2] ?_
    refine runA_pre 5 (by simp [w1, w2, -Int.natCast_add]; rfl) rfl ?_
    refine runA_fin (by simp [w3, -Int.natCast_add]; rfl) ?_
    refine W_ret ?_
    repeat (first | refine on_ret ?_ | refine in_ret ?_)
    simp [retQ]

def vrec (r : Rec) : Bool := decide (1 ≤ r.R) && decide (r.R ≤ 255) && decide (r.key.length ≤ 255)
theorem vrec_sound (r : Rec) : Sound Try.prog 42 [recA r] (.v (.bool (vrec r))) := by
  refine sound_of_W Try.func42 rfl (by decide +kernel) (by simp [Try.f42]) rfl rfl (rs := [.tmp 2]) rfl ?_
  rw [show Try.f42.ntmps = 17 from rfl]
  refine W_evK [1] (by simp; rfl) ?_
  have e3 : decide ((r.key.length : Int) ≤ 255) = decide (r.key.length ≤ 255) := by rw [Bool.eq_iff_iff]; simp; omega
  by_cases c1 : 1 ≤ r.R
  · by_cases c2 : r.R ≤ 255
    · have hv : vrec r = decide (r.key.length ≤ 255) := by simp [vrec, c1, c2]
      rw [hv]
      refine W_rK [2] ?_
      refine runA_pre 6 (by simp [c1]; rfl) rfl ?_
      refine runA_pre 6 (by simp [c2]; rfl) rfl ?_
      refine runA_fin (by simp [e3]; rfl) ?_
      refine W_ret ?_
      repeat (first | refine on_ret ?_ | refine in_ret ?_)
      simp [retQ]
    · have hv : vrec r = false := by simp [vrec, c2]
      rw [hv]
      refine W_rK [2] ?_
      refine runA_pre 6 (by simp [c1]; rfl) rfl ?_
      refine runA_pre 6 (by simp [c2]; rfl) rfl ?_
      refine runA_fin (by simp; rfl) ?_
      refine W_ret ?_
      repeat (first | refine on_ret ?_ | refine in_ret ?_)
      simp [retQ]
  · have hv : vrec r = false := by simp [vrec, c1]
    rw [hv]
    refine W_rK [2] ?_
    refine runA_pre 6 (by simp [c1]; rfl) rfl ?_
    refine runA_pre 6 (by simp; rfl) rfl ?_
    refine runA_fin (by simp; rfl) ?_
    refine W_ret ?_
    repeat (first | refine on_ret ?_ | refine in_ret ?_)
    simp [retQ]

def usedM (t : List Rec) : Nat := (t.map costM).sum
def trSm (t : List Rec) : Prop := t.length ≤ 1000000 ∧ ∀ r ∈ t, recSm r
theorem usedM_snoc (t : List Rec) (r : Rec) : usedM (t ++ [r]) = usedM t + costM r := by simp [usedM]
theorem usedM_le {t : List Rec} (h : ∀ r ∈ t, recSm r) : usedM t ≤ 3000000000 * t.length := by
  induction t with
  | nil => simp [usedM]
  | cons r t ih =>
    have h1 := ih fun x hx => h x (List.mem_cons_of_mem _ hx)
    have h2 := costM_le (h r List.mem_cons_self)
    simp only [usedM, List.map_cons, List.sum_cons, List.length_cons] at h1 ⊢
    omega
theorem add_callW (n s : Int) (rest : List AObj) (hr : underH (rest.length + 1) rest = true) : CallW Try.prog 60 [.v (.int .i64 n), .loc 0 0] (.cells 3 [.v (.int .i64 s)] :: rest) fun r h' => r = .tup [] ∧ h' = .cells 3 [.v (.int .i64 (IntKind.i64.wrap (s + n)))] :: rest := by
  refine callW_of_W Try.func60 rfl (by decide +kernel) (by simp [Try.f60]) (rs := []) rfl ?_
  rw [show Try.f60.ntmps = 6 from rfl]
  refine W_evE [] (by simp [setSeg]; rfl) ?_
  refine ⟨.inl rfl, .tup [], .tup [], _, rest.length + 1, rfl, .inl ⟨rfl, rfl⟩, by simp, by simp, rfl, ?_, rfl, ?_⟩
  · simp [underH, AObj.under, AV.under, AV.underL] at hr ⊢
    simpa using hr
  · simp
end Go.AM
