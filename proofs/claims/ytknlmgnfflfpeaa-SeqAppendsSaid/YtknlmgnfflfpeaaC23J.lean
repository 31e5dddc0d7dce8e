/- The specification's place and Layout. -/
import Derived.Test.YtknlmgnfflfpeaaC23I
import Derived.Test.YtknlmgnfflfpeaaAmC
namespace Go.AM
open Go.RowKit Go.Proofs
set_option linter.unusedSimpArgs false
set_option linter.unusedVariables false
set_option maxHeartbeats 1000000

def okF (f : Fl) (t : List Rec) : Prop := f = .ex ∨ f = .tip 49 67 ∨ (f = .nil ∧ t = [])
def okL (x : AV) (t : List Rec) : Prop := ∃ f, x = .lst f 4 (trL t) ∧ okF f t
def okA (x : AV) (t : List Rec) : Prop := x = .lst .any 4 (trL t) ∨ okL x t
def CE (x : AV) : Prop := ∃ t, okA x t
theorem CE.kill {x : AV} (h : CE x) (T : Nat) : CE (x.kill T) := by
  obtain ⟨t, rfl | ⟨f, rfl, rfl | rfl | ⟨rfl, rfl⟩⟩⟩ := h
  · exact ⟨t, .inl rfl⟩
  · exact ⟨t, .inr ⟨.ex, rfl, .inl rfl⟩⟩
  · by_cases e : T = 67
    · subst e; exact ⟨t, .inl rfl⟩
    · refine ⟨t, .inr ⟨.tip 49 67, ?_, .inr (.inl rfl)⟩⟩
      simp [AV.kill]; omega
  · exact ⟨[], .inr ⟨.nil, rfl, .inr (.inr ⟨rfl, rfl⟩)⟩⟩
theorem CE.under {x : AV} (h : CE x) (m : Nat) : x.under m = true := by
  obtain ⟨t, rfl | ⟨f, rfl, _⟩⟩ := h <;> rfl
theorem okA.kill {x : AV} {t : List Rec} (h : okA x t) (T : Nat) : okA (x.kill T) t := by
  rcases h with rfl | ⟨f, rfl, rfl | rfl | ⟨rfl, rfl⟩⟩
  · exact .inl rfl
  · exact .inr ⟨.ex, rfl, .inl rfl⟩
  · by_cases e : T = 67
    · subst e; exact .inl rfl
    · refine .inr ⟨.tip 49 67, ?_, .inr (.inl rfl)⟩
      simp [AV.kill]; omega
  · exact .inr ⟨.nil, rfl, .inr (.inr ⟨rfl, rfl⟩)⟩
def gObj (o : AObj) : Prop := (∃ cs, o = .cells 46 cs ∧ ∀ x ∈ cs, CE x) ∨ ∃ r, o = .cells 49 (recC r)
def goodR (H : List AObj) : Prop := ∀ o ∈ H, gObj o
theorem underL_of {m : Nat} : ∀ {cs : List AV}, (∀ x ∈ cs, CE x) → AV.underL m cs = true
  | [], _ => rfl
  | x :: cs, h => by
    simp only [AV.underL, (h x List.mem_cons_self).under m, underL_of fun y hy => h y (List.mem_cons_of_mem _ hy), Bool.and_self]
theorem good_under : ∀ {H : List AObj}, goodR H → ∀ m, underH m H = true
  | [], _, _ => rfl
  | o :: H, h, m => by
    have h1 := good_under (H := H) (fun x hx => h x (List.mem_cons_of_mem _ hx)) m
    simp only [underH, h1, Bool.and_true]
    rcases h o List.mem_cons_self with ⟨cs, rfl, hc⟩ | ⟨r, rfl⟩
    · exact underL_of hc
    · rfl
theorem mem_killL {T : Nat} : ∀ {cs : List AV} {y : AV}, y ∈ AV.killL T cs → ∃ x ∈ cs, y = x.kill T
  | [], _, h => by simp [AV.killL] at h
  | x :: cs, y, h => by
    simp only [AV.killL, List.mem_cons] at h
    rcases h with rfl | h
    · exact ⟨x, List.mem_cons_self, rfl⟩
    · obtain ⟨z, h1, h2⟩ := mem_killL h
      exact ⟨z, List.mem_cons_of_mem _ h1, h2⟩
theorem gObj.kill {o : AObj} (h : gObj o) (T : Nat) : gObj (o.kill T) := by
  rcases h with ⟨cs, rfl, hc⟩ | ⟨r, rfl⟩
  · refine .inl ⟨_, rfl, fun y hy => ?_⟩
    obtain ⟨x, hx, rfl⟩ := mem_killL hy
    exact (hc x hx).kill T
  · exact .inr ⟨r, by simp [AObj.kill, recC, AV.killL, AV.kill]⟩
theorem good_kill {H : List AObj} (h : goodR H) (T : Nat) : goodR (H.map (AObj.kill T)) := by
  intro o ho
  obtain ⟨p, hp, rfl⟩ := List.mem_map.1 ho
  exact (h p hp).kill T
theorem good_push {H : List AObj} (h : goodR H) {o : AObj} (ho : gObj o) : goodR (H ++ [o]) := by
  intro p hp
  rcases List.mem_append.1 hp with h1 | h1
  · exact h p h1
  · rw [List.mem_singleton.1 h1]; exact ho
theorem good_set {H : List AObj} (h : goodR H) (j : Nat) {o : AObj} (ho : gObj o) : goodR (H.set j o) := by
  intro p hp
  rcases List.mem_or_eq_of_mem_set hp with h1 | h1
  · exact h p h1
  · rw [h1]; exact ho

structure TC (O : List (List Rec)) (now : List Rec) (cap : Nat) (cs : List AV) : Prop where
  len : cs.length = cap
  le : O.length + 1 ≤ cap
  old : ∀ (j : Nat) (t : List Rec), O[j]? = some t → ∃ x : AV, cs[j]? = some x ∧ okA x t
  cur : ∃ x : AV, cs[O.length]? = some x ∧ okL x now
  rest : ∀ j : Nat, O.length + 1 ≤ j → j < cap → cs[j]? = some (.lst .nil 4 [])
theorem TC.ce {O : List (List Rec)} {now : List Rec} {cap : Nat} {cs : List AV} (h : TC O now cap cs) : ∀ x ∈ cs, CE x := by
  intro x hx
  obtain ⟨j, hj, rfl⟩ := List.mem_iff_getElem.1 hx
  rcases Nat.lt_trichotomy j O.length with h1 | h1 | h1
  · obtain ⟨y, h2, h3⟩ := h.old j _ (List.getElem?_eq_getElem h1)
    rw [List.getElem?_eq_getElem hj] at h2
    cases h2
    exact ⟨_, h3⟩
  · subst h1
    obtain ⟨y, h2, h3⟩ := h.cur
    rw [List.getElem?_eq_getElem hj] at h2
    cases h2
    exact ⟨_, .inr h3⟩
  · have h2 := h.rest j h1 (by rw [← h.len]; exact hj)
    rw [List.getElem?_eq_getElem hj] at h2
    have h3 := Option.some.inj h2
    exact ⟨[], .inr ⟨.nil, by rw [h3]; rfl, .inr (.inr ⟨rfl, rfl⟩)⟩⟩

theorem TC.grow {O : List (List Rec)} {now now' : List Rec} {cap T : Nat} {cs : List AV} (h : TC O now cap cs) {x : AV} (hx : okL x now') : TC O now' cap (setSeg (AV.killL T cs) O.length [x]) := by
  have hkl : (AV.killL T cs).length = cs.length := by
    have : ∀ xs : List AV, (AV.killL T xs).length = xs.length := fun xs => by induction xs <;> simp_all [AV.killL]
    exact this cs
  have hle : O.length + ([x] : List AV).length ≤ (AV.killL T cs).length := by rw [hkl, h.len]; simpa using h.le
  refine ⟨by rw [setSeg_length _ _ _ hle, hkl, h.len], h.le, fun j t hj => ?_, ⟨x, ?_, hx⟩, fun j h1 h2 => ?_⟩
  · have hjl := (List.getElem?_eq_some_iff.1 hj).1
    rw [setSeg_get _ _ _ hle, if_neg (by omega), killL_get]
    obtain ⟨y, k1, k2⟩ := h.old j t hj
    exact ⟨_, by rw [k1]; rfl, k2.kill T⟩
  · rw [setSeg_get _ _ _ hle, if_pos ⟨Nat.le_refl _, by simp⟩]
    simp
  · rw [setSeg_get _ _ _ hle, if_neg (by simp; omega), killL_get, h.rest j h1 h2]
    rfl

theorem TC.next {O : List (List Rec)} {now now' : List Rec} {cap : Nat} {cs : List AV} (h : TC O now cap cs) (hc : O.length + 2 ≤ cap) {x : AV} (hx : okL x now') : TC (O ++ [now]) now' cap (setSeg cs (O.length + 1) [x]) := by
  have hle : O.length + 1 + ([x] : List AV).length ≤ cs.length := by rw [h.len]; simpa using hc
  refine ⟨by rw [setSeg_length _ _ _ hle, h.len], by simpa using hc, fun j t hj => ?_, ⟨x, ?_, hx⟩, fun j h1 h2 => ?_⟩
  · have hjl := (List.getElem?_eq_some_iff.1 hj).1
    simp at hjl
    rw [setSeg_get _ _ _ hle, if_neg (by omega)]
    rcases Nat.lt_or_ge j O.length with h1 | h1
    · rw [List.getElem?_append_left h1] at hj
      exact h.old j t hj
    · have : j = O.length := by omega
      subst this
      rw [List.getElem?_append_right h1, Nat.sub_self] at hj
      simp at hj
      subst hj
      obtain ⟨y, k1, k2⟩ := h.cur
      exact ⟨y, k1, .inr k2⟩
  · rw [List.length_append, List.length_singleton, setSeg_get _ _ _ hle, if_pos ⟨Nat.le_refl _, by simp⟩]
    simp
  · rw [List.length_append, List.length_singleton] at h1
    rw [setSeg_get _ _ _ hle, if_neg (by simp; omega)]
    exact h.rest j (by omega) h2

theorem TC.move {O : List (List Rec)} {now now' : List Rec} {cap cap' : Nat} {cs : List AV} (h : TC O now cap cs) (hc : O.length + 2 ≤ cap') {x : AV} (hx : okL x now') :
    TC (O ++ [now]) now' cap' (cs.take (O.length + 1) ++ [x] ++ List.replicate (cap' - (O.length + 2)) (.lst .nil 4 [])) := by
  have ht : (cs.take (O.length + 1)).length = O.length + 1 := by rw [List.length_take, h.len]; have := h.le; omega
  refine ⟨by simp [ht]; omega, by simpa using hc, fun j t hj => ?_, ⟨x, ?_, hx⟩, fun j h1 h2 => ?_⟩
  · have hjl := (List.getElem?_eq_some_iff.1 hj).1
    simp at hjl
    rw [List.append_assoc, List.getElem?_append_left (by omega), List.getElem?_take, if_pos (by omega)]
    rcases Nat.lt_or_ge j O.length with h1 | h1
    · rw [List.getElem?_append_left h1] at hj
      exact h.old j t hj
    · have : j = O.length := by omega
      subst this
      rw [List.getElem?_append_right h1, Nat.sub_self] at hj
      simp at hj
      subst hj
      obtain ⟨y, k1, k2⟩ := h.cur
      exact ⟨y, k1, .inr k2⟩
  · rw [List.append_assoc, List.getElem?_append_right (by simp [ht]), ht]
    simp
  · simp at h1
    rw [List.append_assoc, List.getElem?_append_right (by omega), ht, List.getElem?_append_right (by simp; omega), List.getElem?_replicate]
    rw [if_pos (by simp; omega)]
end Go.AM
