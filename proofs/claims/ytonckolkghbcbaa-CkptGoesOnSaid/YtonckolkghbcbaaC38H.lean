/- An area whose tracks may be grown, in a made slice; the model of written. -/
import Derived.Test.YtonckolkghbcbaaC38Y
import Derived.Test.YtonckolkghbcbaaAmC
namespace Go.AM
open Go.RowKit Go.Proofs
set_option linter.unusedSimpArgs false
set_option linter.unusedVariables false
set_option maxHeartbeats 1000000

theorem deep_byL (l : List UInt8) : (AV.lst .any 1 (byL l)).deep = true := by
  have : AV.deepL (byL l) = true := by induction l <;> simp_all [byL, AV.deepL, AV.deep]
  simp only [AV.deep, this, Bool.and_true, Bool.or_eq_true]
  cases l with
  | nil => exact .inl rfl
  | cons b l => exact .inr rfl
theorem deep_recA (r : Rec) : (recA r).deep = true := by
  show (true && ((AV.lst .any 1 (byL r.key)).deep && ((AV.lst .any 1 (byL r.data)).deep && (true && true)))) = true
  rw [deep_byL, deep_byL]
  rfl
theorem deep_trL (t : List Rec) : (AV.lst .any 4 (trL t)).deep = true := by
  have : AV.deepL (trL t) = true := by
    induction t with
    | nil => rfl
    | cons r t ih => rw [trL_cons, AV.deepL, deep_recA, ih]; rfl
  simp only [AV.deep, this, Bool.and_true, Bool.or_eq_true]
  cases t with
  | nil => exact .inl rfl
  | cons b l => exact .inr rfl
theorem thwL_arL (a : List (List Rec)) : AV.thwL (arL a) = true := by
  have h1 : (arL a).all AV.isL = true := by simp [arL, AV.isL]
  have h2 : AV.deepL (arL a) = true := by
    induction a with
    | nil => rfl
    | cons t a ih =>
      show (AV.deep (.lst .any 4 (trL t)) && AV.deepL (arL a)) = true
      rw [deep_trL, ih (by simp [arL, AV.isL])]; rfl
  simp [AV.thwL, h1, h2]

def okC (T : Nat) (x : AV) (t : List Rec) : Prop := x = .lst .any 4 (trL t) ∨ x = .lst (.tip 52 T) 4 (trL t) ∨ (x = .lst .nil 4 [] ∧ t = [])

structure AR (T r : Nat) (cs : List AV) (M : List (List Rec)) : Prop where
  len : cs.length = M.length + r
  cell : ∀ (j : Nat) (t : List Rec), M[j]? = some t → ∃ x, cs[j]? = some x ∧ okC T x t
  rest : ∀ j, M.length ≤ j → j < cs.length → cs[j]? = some .any
theorem AR.init (T r : Nat) (M : List (List Rec)) : AR T r (arL M ++ List.replicate r .any) M := by
  refine ⟨by simp, fun j t h => ⟨_, ?_, .inl rfl⟩, fun j h1 h2 => ?_⟩
  · have hj := (List.getElem?_eq_some_iff.1 h).1
    rw [List.getElem?_append_left (by simpa using hj)]
    simp [arL, h]
  · rw [List.getElem?_append_right (by simpa using h1), List.getElem?_replicate]
    rw [if_pos]
    simp at h2 ⊢; omega
theorem okC.kill {T : Nat} (hT : T % 2 = 1) {x : AV} {t : List Rec} (h : okC T x t) : okC T (x.kill T) t := by
  rcases h with rfl | rfl | ⟨rfl, rfl⟩
  · exact .inl (by simp [AV.kill])
  · refine .inl ?_
    simp [AV.kill, hT]
  · exact .inr (.inr ⟨by simp [AV.kill, AV.killL], rfl⟩)
theorem AR.all {T r : Nat} {cs : List AV} {M : List (List Rec)} (h : AR T r cs M) : ∀ x ∈ cs, x = .any ∨ ∃ t, okC T x t := by
  intro x hx
  obtain ⟨j, hj, rfl⟩ := List.mem_iff_getElem.1 hx
  rcases Nat.lt_or_ge j M.length with h1 | h1
  · obtain ⟨y, h2, h3⟩ := h.cell j _ (List.getElem?_eq_getElem h1)
    rw [List.getElem?_eq_getElem hj] at h2
    cases h2
    exact .inr ⟨_, h3⟩
  · have h2 := h.rest j h1 hj
    rw [List.getElem?_eq_getElem hj] at h2
    exact .inl (Option.some.inj h2)
theorem AR.kill {T r : Nat} (hT : T % 2 = 1) {cs : List AV} {M : List (List Rec)} (h : AR T r cs M) : AR T r (AV.killL T cs) M := by
  have hl : (AV.killL T cs).length = cs.length := by
    have : ∀ xs : List AV, (AV.killL T xs).length = xs.length := fun xs => by induction xs <;> simp_all [AV.killL]
    exact this cs
  refine ⟨by rw [hl]; exact h.len, fun j t hj => ?_, fun j h1 h2 => ?_⟩
  · obtain ⟨x, h1, h2⟩ := h.cell j t hj
    exact ⟨_, by rw [killL_get, h1]; rfl, h2.kill hT⟩
  · rw [killL_get, h.rest j h1 (by omega)]; rfl
theorem AR.set {T r : Nat} {cs : List AV} {M : List (List Rec)} (h : AR T r cs M) {p : Nat} (hp : p < M.length) {x : AV} {t : List Rec} (hx : okC T x t) : AR T r (setSeg cs p [x]) (M.set p t) := by
  have hle : p + 1 ≤ cs.length := by have := h.len; omega
  refine ⟨?_, fun j u hj => ?_, fun j h1 h2 => ?_⟩
  · rw [setSeg_length _ _ _ (by simpa using hle), List.length_set]; exact h.len
  · rw [setSeg_get _ _ _ (by simpa using hle)]
    rcases Nat.decEq j p with h1 | h1
    · rw [List.getElem?_set_ne (by omega)] at hj
      rw [if_neg (by simp; omega)]
      exact h.cell j u hj
    · subst h1
      rw [List.getElem?_set_self hp] at hj
      cases hj
      exact ⟨x, by simp, hx⟩
  · rw [List.length_set] at h1
    rw [setSeg_length _ _ _ (by simpa using hle)] at h2
    rw [setSeg_get _ _ _ (by simpa using hle), if_neg (by simp; omega)]
    exact h.rest j h1 h2
theorem AR.rf {T r : Nat} {cs : List AV} {M : List (List Rec)} (h : AR T r cs M) : AV.rfL cs = true := by
  have : ∀ xs : List AV, (∀ x ∈ xs, x.rf = true) → AV.rfL xs = true := fun xs => by induction xs <;> simp_all [AV.rfL]
  refine this cs fun x hx => ?_
  rcases h.all x hx with rfl | ⟨t, rfl | rfl | ⟨rfl, rfl⟩⟩ <;> simp [AV.rf, AV.rfL]
theorem AR.kone {T r : Nat} : ∀ {M : List (List Rec)} {cs : List AV}, AR T r cs M → AV.koneL (cs.take M.length) = true
  | [], cs, h => rfl
  | t :: M, cs, h => by
    obtain ⟨x, h1, h2⟩ := h.cell 0 t rfl
    cases cs with
    | nil => simp at h1
    | cons y cs =>
      simp at h1
      subst h1
      have ht : AR T r cs M := ⟨by have := h.len; simp at this; omega, fun j u hj => by
        obtain ⟨z, k1, k2⟩ := h.cell (j + 1) u (by simpa using hj)
        exact ⟨z, by simpa using k1, k2⟩, fun j k1 k2 => by
        have := h.rest (j + 1) (by simpa using k1) (by simpa using k2)
        simpa using this⟩
      have ih := AR.kone ht
      simp only [List.length_cons, List.take_succ_cons, AV.koneL, ih, Bool.and_true]
      rcases h2 with rfl | rfl | ⟨rfl, _⟩ <;> rfl
theorem AR.under {T r : Nat} {cs : List AV} {M : List (List Rec)} (h : AR T r cs M) (m : Nat) : AV.underL m cs = true := by
  have : ∀ xs : List AV, (∀ x ∈ xs, x.under m = true) → AV.underL m xs = true := fun xs => by induction xs <;> simp_all [AV.underL]
  refine this cs fun x hx => ?_
  rcases h.all x hx with rfl | ⟨t, rfl | rfl | ⟨rfl, rfl⟩⟩ <;> simp [AV.under, AV.underL]
theorem okC.weak {T : Nat} (hT : T % 2 = 1) {x : AV} {t : List Rec} (h : okC T x t) : x.weak = .lst .any 4 (trL t) := by
  rcases h with rfl | rfl | ⟨rfl, rfl⟩
  · simp [AV.weak, Fl.wk]
  · simp [AV.weak, Fl.wk, hT]
  · simp [AV.weak, Fl.wk, AV.weakL]
theorem AR.chunk {T r : Nat} (hT : T % 2 = 1) : ∀ {M : List (List Rec)} {cs : List AV}, AR T r cs M → chunk false 1 M.length (AV.weakL cs) = arL M
  | [], cs, h => by simp [Go.AM.chunk, arL]
  | t :: M, cs, h => by
    obtain ⟨x, h1, h2⟩ := h.cell 0 t rfl
    cases cs with
    | nil => simp at h1
    | cons y cs =>
      simp at h1
      subst h1
      have ht : AR T r cs M := ⟨by have := h.len; simp at this; omega, fun j u hj => by
        obtain ⟨z, k1, k2⟩ := h.cell (j + 1) u (by simpa using hj)
        exact ⟨z, by simpa using k1, k2⟩, fun j k1 k2 => by
        have := h.rest (j + 1) (by simpa using k1) (by simpa using k2)
        simpa using this⟩
      have ih := AR.chunk hT ht
      simp only [List.length_cons, Go.AM.chunk, AV.weakL, List.headD_cons, List.drop_succ_cons, List.drop_zero, Bool.false_eq_true, if_false, ih, h2.weak hT]
      rfl
theorem AR.get {T r : Nat} {cs : List AV} {M : List (List Rec)} (h : AR T r cs M) {p : Nat} {t : List Rec} (hp : M[p]? = some t) : ∃ x, cs[p]? = some x ∧ okC T x t := h.cell p t hp

def bd (r : Rec) (b : Bool) : Rec := ⟨r.R, r.key, r.data, r.bad || b⟩

def wtr : List Rec → Nat → Nat → Bool → Nat → List Rec
  | _, _, _, _, 0 => []
  | [], _, _, _, _ => []
  | r :: t, n, most, bad, k + 1 => bd r (bad && decide (n + 1 = most)) :: wtr t (n + 1) most bad k
def cnt (t : List Rec) (n most : Nat) : Nat := min t.length (most - n)
def wr1 (t : List Rec) (n most : Nat) (bad : Bool) (o : List Rec) : List Rec := if cnt t n most = 0 then o else wtr t n most bad (cnt t n most)
def wrM (a : List (List Rec)) (p : Nat) (n most : Nat) (bad : Bool) : List (List Rec) → List (List Rec)
  | [] => a
  | t :: l => wrM (a.set p (wr1 t n most bad (a.getD p []))) (p + 1) (n + cnt t n most) most bad l
def cntL (n most : Nat) : List (List Rec) → Nat
  | [] => n
  | t :: l => cntL (n + cnt t n most) most l
def sumL (l : List (List Rec)) : Nat := (l.map List.length).sum
theorem cntL_eq (n most : Nat) (l : List (List Rec)) (h : n ≤ most) : cntL n most l = min most (n + sumL l) := by
  induction l generalizing n with
  | nil => simp [cntL, sumL]; omega
  | cons t l ih =>
    rw [cntL, ih _ (by unfold cnt; omega)]
    unfold cnt sumL
    simp
    omega
theorem wtr_succ (t : List Rec) (n most : Nat) (bad : Bool) (k : Nat) {r : Rec} (h : t[k]? = some r) : wtr t n most bad (k + 1) = wtr t n most bad k ++ [bd r (bad && decide (n + k + 1 = most))] := by
  induction k generalizing t n with
  | zero =>
    cases t with
    | nil => simp at h
    | cons x t => simp at h; subst h; simp [wtr]
  | succ k ih =>
    cases t with
    | nil => simp at h
    | cons x t =>
      rw [wtr, ih t (n + 1) (by simpa using h), wtr]
      simp [Nat.add_assoc, Nat.add_comm 1 k]
theorem wtr_length (t : List Rec) (n most : Nat) (bad : Bool) (k : Nat) (h : k ≤ t.length) : (wtr t n most bad k).length = k := by
  induction k generalizing t n with
  | zero => simp [wtr]
  | succ k ih =>
    cases t with
    | nil => simp at h
    | cons x t => simp [wtr, ih t (n + 1) (by simpa using h)]
end Go.AM
