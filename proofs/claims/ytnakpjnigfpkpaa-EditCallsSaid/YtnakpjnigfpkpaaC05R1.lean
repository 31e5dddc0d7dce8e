/- What the specification's Edit computes is what Edit computes. -/
import Derived.Test.YtnakpjnigfpkpaaC05E5
namespace Go.AM
open Go.RowKit Go.Proofs
set_option linter.unusedSimpArgs false
set_option linter.unusedVariables false

structure Dg where
  n : Nat
  sign : Nat
  bad : Bool
def dgB (b : UInt8) : List Dg :=
  if b.toNat % 16 ≤ 9 then [⟨b.toNat / 16, 0, false⟩, ⟨b.toNat % 16, 0, false⟩]
  else if b.toNat % 16 = 11 ∨ b.toNat % 16 = 13 then [⟨b.toNat / 16, 2, false⟩] else [⟨b.toNat / 16, 1, false⟩]
def dgM : List UInt8 → List Dg
  | [] => []
  | b :: l => if 9 < b.toNat / 16 then [⟨0, 0, true⟩] else dgB b ++ dgM l
structure Rs where
  next : Nat
  on : Bool
  some_ : Bool
  mark : Int
  text : List UInt8
def rtake (l : List Dg) (p0 : UInt8) (i : Nat) (st : Bool) (s : Rs) : Nat × Rs :=
  match l[s.next]? with
  | none => (5, s)
  | some d => if d.bad then (7, s) else
    (0, ⟨s.next + 1, (s.on || decide (0 < d.n) || st) && decide (d.sign ≠ 1), s.some_ || decide (0 < d.n), if !s.on && decide (0 < d.n) then i else s.mark, s.text ++ [if s.on || decide (0 < d.n) then UInt8.ofNat (240 + d.n) else p0]⟩)
def rstep (l : List Dg) (p0 : UInt8) (i : Nat) (c : UInt8) (s : Rs) : Nat × Rs :=
  if c.toNat = 34 then (0, { s with on := false, some_ := false, text := s.text ++ [p0] })
  else if c.toNat = 32 then rtake l p0 i false s
  else if c.toNat = 33 then rtake l p0 i true s
  else (0, { s with text := s.text ++ [if s.on then c else p0] })
def rrun (l : List Dg) (p0 : UInt8) : List UInt8 → Nat → Rs → Nat × Rs
  | [], _, s => (0, s)
  | c :: cs, i, s => if (rstep l p0 i c s).1 ≠ 0 then rstep l p0 i c s else rrun l p0 cs (i + 1) (rstep l p0 i c s).2
def rcode (s : Rs) : Nat := if s.some_ then (if s.on then 1 else 2) else 0
def rs0 : Rs := ⟨0, false, false, -1, []⟩
def redM (pat src : List UInt8) : List UInt8 × Nat × Int × Nat :=
  if pat.length = 0 ∨ 256 < pat.length then ([], 0, 0, 6)
  else
    let r := rrun (dgM src) (pat.headD 0) pat 0 rs0
    if r.1 ≠ 0 then ([], 0, 0, r.1) else (r.2.text, rcode r.2, r.2.mark, 0)

def Pos (src : List UInt8) (l : List Dg) (k next : Nat) : Prop :=
  (k % 2 = 0 ∧ l.drop next = dgM (src.drop (k / 2))) ∨ (k % 2 = 1 ∧ ∃ b, src[k / 2]? = some b ∧ l.drop next = ⟨b.toNat % 16, 0, false⟩ :: dgM (src.drop (k / 2 + 1)))
theorem drop_get {α : Type} {l : List α} {n : Nat} {x : α} {r : List α} (h : l.drop n = x :: r) : l[n]? = some x ∧ l.drop (n + 1) = r := by
  constructor
  · have := congrArg (fun l => l[0]?) h
    simpa using this
  · rw [← List.drop_drop, h]
    rfl
theorem take_rel {src : List UInt8} {l : List Dg} {k next : Nat} (hp : Pos src l k next) :
    ((takeM src k).2.2.1 = 5 ∧ l[next]? = none) ∨ ((takeM src k).2.2.1 = 7 ∧ ∃ d, l[next]? = some d ∧ d.bad = true) ∨
    ((takeM src k).2.2.1 = 0 ∧ ∃ d, l[next]? = some d ∧ d.bad = false ∧ d.n = (takeM src k).1 ∧ (takeM src k).2.1 = decide (d.sign = 1) ∧ Pos src l (takeM src k).2.2.2 (next + 1)) := by
  rcases hp with ⟨hk, hd⟩ | ⟨hk, b, hb, hd⟩
  · cases hb : src[k / 2]? with
    | none =>
      left
      have h0 : src.drop (k / 2) = [] := List.drop_eq_nil_iff.2 (by simpa using hb)
      rw [h0, dgM, List.drop_eq_nil_iff] at hd
      exact ⟨by simp [takeM, hb], by simpa using hd⟩
    | some b =>
      right
      have hlt := (List.getElem?_eq_some_iff.1 hb).1
      have h1 : src.drop (k / 2) = b :: src.drop (k / 2 + 1) := by
        rw [List.drop_eq_getElem_cons hlt, (List.getElem?_eq_some_iff.1 hb).2]
      rw [h1, dgM] at hd
      have hk1 : ¬ (k + 1) % 2 = 0 := by omega
      have e2 : (k + 2) / 2 = k / 2 + 1 := by omega
      have e1 : (k + 1) / 2 = k / 2 := by omega
      by_cases c1 : 9 < b.toNat / 16
      · rw [if_pos c1] at hd
        obtain ⟨h2, _⟩ := drop_get hd
        exact .inl ⟨by simp [takeM, hb, hk1, c1], _, h2, rfl⟩
      right
      rw [if_neg c1] at hd
      by_cases c2 : 9 < b.toNat % 16
      · have c2' : ¬ b.toNat % 16 ≤ 9 := by omega
        rw [dgB, if_neg c2'] at hd
        by_cases c3 : b.toNat % 16 = 11 ∨ b.toNat % 16 = 13
        · rw [if_pos c3] at hd
          obtain ⟨h2, h3⟩ := drop_get hd
          refine ⟨by simp [takeM, hb, hk1, c1, c2], _, h2, rfl, by simp [takeM, hb, hk1, c1, c2], by simp [takeM, hb, hk1, c1, c2]; omega, .inl ⟨?_, ?_⟩⟩
          · simp [takeM, hb, hk1, c1, c2, hk]
          · simp only [takeM, hb, hk1, c1, c2, if_false, if_true, e2]
            exact h3
        · rw [if_neg c3] at hd
          obtain ⟨h2, h3⟩ := drop_get hd
          refine ⟨by simp [takeM, hb, hk1, c1, c2], _, h2, rfl, by simp [takeM, hb, hk1, c1, c2], by simp [takeM, hb, hk1, c1, c2]; omega, .inl ⟨?_, ?_⟩⟩
          · simp [takeM, hb, hk1, c1, c2, hk]
          · simp only [takeM, hb, hk1, c1, c2, if_false, if_true, e2]
            exact h3
      · have c2' : b.toNat % 16 ≤ 9 := by omega
        rw [dgB, if_pos c2'] at hd
        obtain ⟨h2, h3⟩ := drop_get hd
        refine ⟨by simp [takeM, hb, hk1, c1, c2], _, h2, rfl, by simp [takeM, hb, hk1, c1, c2], by simp [takeM, hb, hk1, c1, c2], .inr ⟨?_, b, ?_, ?_⟩⟩
        · simp only [takeM, hb, hk1, c1, c2, if_false]; omega
        · simp only [takeM, hb, hk1, c1, c2, if_false, e1]
        · simp only [takeM, hb, hk1, c1, c2, if_false, e1]
          exact h3
  · right; right
    obtain ⟨h2, h3⟩ := drop_get hd
    have hk1 : (k + 1) % 2 = 0 := by omega
    have e1 : (k + 1) / 2 = k / 2 + 1 := by omega
    refine ⟨by simp [takeM, hb, hk1], _, h2, rfl, by simp [takeM, hb, hk1], by simp [takeM, hb, hk1], .inl ⟨?_, ?_⟩⟩
    · simp [takeM, hb, hk1]
    · simp only [takeM, hb, hk1, if_true, e1]
      exact h3

structure Sim (src : List UInt8) (l : List Dg) (n i : Nat) (e : Ed) (s : Rs) : Prop where
  pos : Pos src l e.at_ s.next
  on : e.on = s.on
  some_ : e.some_ = s.some_
  mark : e.mark = s.mark
  len : s.text.length = i
  text : e.text = s.text ++ List.replicate (n - i) 0
theorem set_text {t : List UInt8} {n i : Nat} (hi : i < n) (ht : t.length = i) (b : UInt8) : (t ++ List.replicate (n - i) 0).set i b = (t ++ [b]) ++ List.replicate (n - (i + 1)) 0 := by
  obtain ⟨m, hm⟩ : ∃ m, n - i = m + 1 := ⟨n - i - 1, by omega⟩
  have hm2 : n - (i + 1) = m := by omega
  rw [hm, hm2, List.replicate_succ, List.set_append_right _ _ (by omega), ht, Nat.sub_self, List.set_cons_zero]
  simp
theorem set_set_text {t : List UInt8} {n i : Nat} (hi : i < n) (ht : t.length = i) (a b : UInt8) : ((t ++ List.replicate (n - i) 0).set i a).set i b = (t ++ [b]) ++ List.replicate (n - (i + 1)) 0 := by
  rw [List.set_set]; exact set_text hi ht b
theorem step_rel {src : List UInt8} {l : List Dg} {n i : Nat} {e : Ed} {s : Rs} (h : Sim src l n i e s) (hi : i < n) (p0 c : UInt8) :
    (stepM src p0 i c e).1 = (rstep l p0 i c s).1 ∧ ((stepM src p0 i c e).1 = 0 → Sim src l n (i + 1) (stepM src p0 i c e).2 (rstep l p0 i c s).2) := by
  obtain ⟨hpos, hon, hsome, hmark, hlen, htext⟩ := h
  obtain ⟨k, on, sm, text, mark⟩ := e
  obtain ⟨next, on', sm', mark', text'⟩ := s
  simp only at hpos hon hsome hmark hlen htext
  subst hon hsome hmark htext
  have tk := take_rel hpos
  unfold stepM rstep
  by_cases c4 : c.toNat = 34
  · simp only [c4, sepM]
    exact ⟨rfl, fun _ => ⟨hpos, rfl, rfl, rfl, by simp [hlen], set_text hi hlen p0⟩⟩
  by_cases c2 : c.toNat = 32
  · simp only [c2, digitM, showM, rtake]
    rcases tk with ⟨t1, t2⟩ | ⟨t1, d, t2, t3⟩ | ⟨t1, d, t2, t3, t4, t5, t6⟩
    · simp [t1, t2]
    · simp [t1, t2, t3]
    · simp only [t1, t2, t3, t4, t5]
      refine ⟨by simp, fun _ => ?_⟩
      by_cases d0 : 0 < (takeM src k).1 <;> cases on <;> simp [d0] <;> refine ⟨t6, ?_, ?_, ?_, ?_, ?_⟩ <;> simp [hlen, set_set_text hi hlen, set_text hi hlen]
  by_cases c3 : c.toNat = 33
  · simp only [c3, startM, showM, rtake]
    rcases tk with ⟨t1, t2⟩ | ⟨t1, d, t2, t3⟩ | ⟨t1, d, t2, t3, t4, t5, t6⟩
    · simp [t1, t2]
    · simp [t1, t2, t3]
    · simp only [t1, t2, t3, t4, t5]
      refine ⟨by simp, fun _ => ?_⟩
      by_cases d0 : 0 < (takeM src k).1 <;> cases on <;> simp [d0] <;> refine ⟨t6, ?_, ?_, ?_, ?_, ?_⟩ <;> simp [hlen, set_set_text hi hlen, set_text hi hlen]
  · simp only [c2, c3, c4, if_false]
    refine ⟨by simp, fun _ => ?_⟩
    cases on with
    | false => exact ⟨hpos, rfl, rfl, rfl, by simp [hlen], set_text hi hlen p0⟩
    | true => exact ⟨hpos, rfl, rfl, rfl, by simp [hlen], set_set_text hi hlen p0 c⟩
theorem run_rel {src : List UInt8} {l : List Dg} {n : Nat} {p0 : UInt8} : ∀ (cs : List UInt8) (i : Nat) (e : Ed) (s : Rs), Sim src l n i e s → i + cs.length = n →
    (runM src p0 cs i e).1 = (rrun l p0 cs i s).1 ∧ ((runM src p0 cs i e).1 = 0 → Sim src l n n (runM src p0 cs i e).2 (rrun l p0 cs i s).2)
  | [], i, e, s, h, hn => by
    simp only [List.length_nil, Nat.add_zero] at hn
    subst hn
    exact ⟨rfl, fun _ => h⟩
  | c :: cs, i, e, s, h, hn => by
    simp only [List.length_cons] at hn
    obtain ⟨h1, h2⟩ := step_rel h (by omega) p0 c
    unfold runM rrun
    by_cases c0 : (stepM src p0 i c e).1 ≠ 0
    · rw [if_pos c0, if_pos (by rw [← h1]; exact c0)]
      exact ⟨h1, fun h => absurd h c0⟩
    · rw [if_neg c0, if_neg (by rw [← h1]; exact c0)]
      exact run_rel cs (i + 1) _ _ (h2 (by omega)) (by omega)
theorem redM_eq (pat src : List UInt8) : redM pat src = edM pat src := by
  unfold redM edM
  by_cases h : pat.length = 0 ∨ 256 < pat.length
  · rw [if_pos h, if_pos h]
  rw [if_neg h, if_neg h]
  obtain ⟨h1, h2⟩ := run_rel (src := src) (l := dgM src) (n := pat.length) (p0 := pat.headD 0) pat 0 (ed0 pat.length) rs0 ⟨.inl ⟨rfl, by simp [ed0, rs0]⟩, rfl, rfl, rfl, rfl, by simp [ed0, rs0]⟩ (by omega)
  dsimp only
  rw [← h1]
  by_cases c : (runM src (pat.headD 0) pat 0 (ed0 pat.length)).1 ≠ 0
  · rw [if_pos c, if_pos c]
  · rw [if_neg c, if_neg c]
    have h3 := h2 (by omega)
    obtain ⟨_, hon, hsome, hmark, hlen, htext⟩ := h3
    rw [Nat.sub_self, List.replicate_zero, List.append_nil] at htext
    rw [htext, hmark]
    simp only [rcode, codeM, hon, hsome]
end Go.AM
