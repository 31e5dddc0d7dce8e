/- The examples of the chapter: works. -/
import Derived.Test.YtknlmgnfflfpeaaC23N
import Derived.Test.YtknlmgnfflfpeaaAmC
namespace Go.AM
open Go.RowKit Go.Proofs
set_option linter.unusedSimpArgs false
set_option linter.unusedVariables false
set_option maxHeartbeats 1000000

def recOf : AV → Option Rec
  | .agg [.v (.int .i64 R), .lst .any 1 k, .lst .any 1 d, .v (.bool b)] => (bytesOf k).bind fun k' => (bytesOf d).map fun d' => ⟨R, k', d', b⟩
  | _ => none
theorem recOf_eq {x : AV} {r : Rec} (h : recOf x = some r) : x = recA r := by
  unfold recOf at h
  split at h
  · rename_i R k d b
    obtain ⟨k', h1, h⟩ := Option.bind_eq_some_iff.1 h
    obtain ⟨d', h2, rfl⟩ := Option.map_eq_some_iff.1 h
    rw [bytesOf_eq h1, bytesOf_eq h2]
    rfl
  · cases h
def trOf : List AV → Option (List Rec)
  | [] => some []
  | x :: xs => (recOf x).bind fun r => (trOf xs).map fun l => r :: l
theorem trOf_eq : ∀ {xs : List AV} {l : List Rec}, trOf xs = some l → xs = trL l
  | [], l, h => by simp only [trOf, Option.some.injEq] at h; subst h; rfl
  | x :: xs, l, h => by
    simp only [trOf] at h
    obtain ⟨b, hb, h⟩ := Option.bind_eq_some_iff.1 h
    obtain ⟨l', hl, rfl⟩ := Option.map_eq_some_iff.1 h
    rw [trL_cons, recOf_eq hb, trOf_eq hl]
def arOf : List AV → Option (List (List Rec))
  | [] => some []
  | .lst .any 4 x :: xs => (trOf x).bind fun b => (arOf xs).map fun l => b :: l
  | _ => none
theorem arOf_eq : ∀ {xs : List AV} {l : List (List Rec)}, arOf xs = some l → xs = arL l
  | [], l, h => by simp only [arOf, Option.some.injEq] at h; subst h; rfl
  | x :: xs, l, h => by
    unfold arOf at h
    split at h
    · rename_i h1; cases h1
    · rename_i y ys h1
      cases h1
      obtain ⟨b, hb, h⟩ := Option.bind_eq_some_iff.1 h
      obtain ⟨l', hl, rfl⟩ := Option.map_eq_some_iff.1 h
      rw [arL_cons, trOf_eq hb, arOf_eq hl]
    · cases h
def dcbOf : AV → Option Dcb
  | .agg [.v (.int .i64 a), .v (.int .i64 b), .v (.bool c), .v (.bool d), .v (.int .i64 e), .v (.int .i64 f), .v (.int .i64 g), .v (.int .i64 h)] => some ⟨a, b, c, d, e, f, g, h⟩
  | _ => none
theorem dcbOf_eq {x : AV} {d : Dcb} (h : dcbOf x = some d) : x = dcbA d := by
  unfold dcbOf at h
  split at h
  · cases h; rfl
  · cases h
def kn23 : KnF := fun f args =>
  if f = 26 then match args with
    | [.lst .any 1 a, .lst .any 1 b] => (arOf a).bind fun A => (arOf b).bind fun B => if A.length ≤ 1000 ∧ (A.all fun t => decide (t.length ≤ 1000)) = true then some (.v (.bool (decide (A = B)))) else none
    | _ => none
  else if f = 12 then match args with
    | [x, .lst .any 1 y] => (dcbOf x).bind fun d => (bbOf y).bind fun l => if l.length ≤ 10000 ∧ (l.all fun t => decide (t.length ≤ 10000)) = true then some (resT (tracksM d l)) else none
    | _ => none
  else none
theorem kn23_ok : KnOk Try.prog kn23 := by
  intro f args r h
  unfold kn23 at h
  split at h
  · rename_i hf
    subst hf
    split at h
    · rename_i a b
      obtain ⟨A, hA, h⟩ := Option.bind_eq_some_iff.1 h
      obtain ⟨B, hB, h⟩ := Option.bind_eq_some_iff.1 h
      split at h
      · rename_i hc
        cases h
        rw [arOf_eq hA, arOf_eq hB]
        refine alike_sound A B (by omega) fun t ht => ?_
        have := List.all_eq_true.1 hc.2 t ht
        simp at this
        omega
      · cases h
    · cases h
  · split at h
    · rename_i hf
      subst hf
      split at h
      · rename_i x y
        obtain ⟨d, hd, h⟩ := Option.bind_eq_some_iff.1 h
        obtain ⟨l, hl, h⟩ := Option.bind_eq_some_iff.1 h
        split at h
        · rename_i hc
          cases h
          rw [dcbOf_eq hd, bbOf_eq hl]
          refine tracks_sound d l (by omega) fun t ht => ?_
          have := List.all_eq_true.1 hc.2 t ht
          simp at this
          omega
        · cases h
      · cases h
    · cases h
theorem works_sound : Sound Try.prog 16 [] (.v (.bool true)) := sound_execK kn23_ok mx 300 (by kernel_rfl)
end Go.AM
