/- Lists of records in a made slice; split. -/
import Derived.Test.YtmedlgfdabokaaaC22G
namespace Go.AM
open Go.RowKit Go.Proofs
set_option linter.unusedSimpArgs false
set_option linter.unusedVariables false
set_option maxHeartbeats 1000000

def inertO (o : AObj) : Prop := (∀ T, o.kill T = o) ∧ ∀ m, o.under m = true
def inertR (h : List AObj) : Prop := ∀ o ∈ h, inertO o
theorem inertR_under {h : List AObj} (hh : inertR h) (m : Nat) : underH m h = true := by
  induction h with
  | nil => rfl
  | cons o l ih => simp only [underH, (hh o (by simp)).2 m, ih fun x hx => hh x (by simp [hx]), Bool.and_self]
theorem inertR_kill {h : List AObj} (hh : inertR h) (T : Nat) : h.map (AObj.kill T) = h := by
  have : h.map (AObj.kill T) = h.map id := List.map_congr_left fun o ho => (hh o ho).1 T
  rw [this, List.map_id]
theorem inertR_push {h : List AObj} (hh : inertR h) {o : AObj} (ho : inertO o) : inertR (h ++ [o]) := by
  intro x hx
  rcases List.mem_append.1 hx with h1 | h1
  · exact hh x h1
  · rw [List.mem_singleton.1 h1]; exact ho
theorem inertR_set {h : List AObj} (hh : inertR h) (j : Nat) {o : AObj} (ho : inertO o) : inertR (h.set j o) := by
  intro x hx
  rcases List.mem_or_eq_of_mem_set hx with h1 | h1
  · exact hh x h1
  · rw [h1]; exact ho
def nils (n : Nat) : List AV := List.replicate n (.lst .nil 1 [])
theorem killL_nils (T n : Nat) : AV.killL T (nils n) = nils n := by induction n <;> simp_all [nils, List.replicate_succ, AV.killL, AV.kill]
theorem underL_nils (m n : Nat) : AV.underL m (nils n) = true := by induction n <;> simp_all [nils, List.replicate_succ, AV.underL, AV.under]
theorem koneL_nils (n : Nat) : AV.koneL (nils n) = true := by induction n <;> simp_all [nils, List.replicate_succ, AV.koneL, AV.kone]
theorem rfL_nils (n : Nat) : AV.rfL (nils n) = true := by induction n <;> simp_all [nils, List.replicate_succ, AV.rfL, AV.rf]
theorem repC_nils (n : Nat) : repC n [AV.lst .nil 1 []] = nils n := by
  induction n with
  | zero => rfl
  | succ n ih => simp [repC, nils, List.replicate_succ] at *; exact ih
theorem killL_app (T : Nat) (a b : List AV) : AV.killL T (a ++ b) = AV.killL T a ++ AV.killL T b := by induction a <;> simp_all [AV.killL]
theorem underL_app (m : Nat) (a b : List AV) : AV.underL m (a ++ b) = (AV.underL m a && AV.underL m b) := by induction a <;> simp_all [AV.underL, Bool.and_assoc]
theorem koneL_app (a b : List AV) : AV.koneL (a ++ b) = (AV.koneL a && AV.koneL b) := by induction a <;> simp_all [AV.koneL, Bool.and_assoc]
theorem rfL_app (a b : List AV) : AV.rfL (a ++ b) = (AV.rfL a && AV.rfL b) := by induction a <;> simp_all [AV.rfL, Bool.and_assoc]
def recsC (O : List (List UInt8)) (cap : Nat) : List AV := bbL O ++ nils (cap - O.length)
theorem recs_inert (O : List (List UInt8)) (cap : Nat) : inertO (.cells 35 (recsC O cap)) :=
  ⟨fun T => by simp only [AObj.kill, recsC, killL_app, killL_bbL, killL_nils], fun m => by simp only [AObj.under, recsC, underL_app, underL_bbL, underL_nils, Bool.and_self]⟩
theorem dcb_inert (d : Dcb) : inertO (.cells 23 (dcbC d)) := ⟨fun T => by simp [AObj.kill, dcbC, AV.killL, AV.kill], fun m => by simp [AObj.under, dcbC, AV.underL, AV.under]⟩

def recsOk (F : List Nat) (h : List AObj) (x : AV) (O : List (List UInt8)) : Prop :=
  (O = [] ∧ x = .lst .nil 1 []) ∨ (O ≠ [] ∧ ∃ id cap, id ∉ F ∧ x = .arr id 0 O.length cap ∧ h[id]? = some (.cells 35 (recsC O cap)) ∧ O.length ≤ cap ∧ cap ≤ maxLen)
theorem recs_new {F : List Nat} {h : List AObj} {c : List UInt8} {cap : Nat} (hF : ∀ i ∈ F, i < h.length) (h1 : 1 ≤ cap) (hm : cap ≤ maxLen) :
    recsOk F (h ++ [.cells 35 (recsC [c] cap)]) (.arr h.length 0 1 cap) [c] :=
  .inr ⟨by simp, h.length, cap, fun hh => absurd (hF _ hh) (Nat.lt_irrefl _), rfl, by simp, by simpa using h1, hm⟩
theorem recs_app {F : List Nat} {s s1 : St} {id cap : Nat} {O : List (List UInt8)} {c : List UInt8} {x1 : AV} (hh : inertR s.h) (hF : ∀ i ∈ F, i < s.h.length) (hid : id ∉ F) (hne : O ≠ []) (hj : s.h[id]? = some (.cells 35 (recsC O cap))) (hle : O.length ≤ cap) (hm : cap ≤ maxLen)
    (h : appQ s 35 1 id O.length cap 1 [.lst .any 1 (byL c)] (recsC O cap) (AV.lst .nil 1 []).cells s1 x1) :
    ∃ H', s1 = ⟨s.n, s.fr, H'⟩ ∧ inertR H' ∧ recsOk F H' x1 (O ++ [c]) ∧ (∀ i ∈ F, H'[i]? = s.h[i]?) ∧ s.h.length ≤ H'.length := by
  have hne2 : O ++ [c] ≠ [] := by simp
  have hwk : AV.weakL [AV.lst .any 1 (byL c)] = [AV.lst .any 1 (byL c)] := by simp [AV.weakL, AV.weak, Fl.wk]
  unfold appQ at h
  rw [hwk, Nat.mul_one] at h
  have hlen : (recsC O cap).length = cap := by simp [recsC, nils]; omega
  rcases h with ⟨h1, rfl, rfl⟩ | ⟨h1, cap', h2, h3, rfl, rfl⟩
  · have e : setSeg (recsC O cap) O.length [.lst .any 1 (byL c)] = recsC (O ++ [c]) cap := by
      unfold setSeg recsC
      have hb : (bbL O).length = O.length := by simp
      rw [show (bbL O ++ nils (cap - O.length)).take O.length = bbL O by rw [← hb, List.take_left]]
      rw [List.drop_append, hb, List.drop_eq_nil_of_le (by simp), bbL_append]
      simp only [List.nil_append, List.length_singleton]
      have : (nils (cap - O.length)).drop (O.length + 1 - O.length) = nils (cap - (O ++ [c]).length) := by
        simp only [nils, List.drop_replicate, List.length_append, List.length_singleton]
        congr 1
        omega
      rw [this]
      rfl
    rw [e]
    refine ⟨_, rfl, inertR_set hh _ (recs_inert _ _), .inr ⟨hne2, id, cap, hid, by simp, ?_, by simp; omega, hm⟩, fun i hi => ?_, by simp⟩
    · exact List.getElem?_set_self (List.getElem?_eq_some_iff.1 hj).1
    · exact List.getElem?_set_ne (show id ≠ i from fun e => hid (by rw [e]; exact hi))
  · have e : (recsC O cap).take O.length ++ [.lst .any 1 (byL c)] ++ repC (cap' - (O.length + 1)) (AV.lst .nil 1 []).cells = recsC (O ++ [c]) cap' := by
      unfold recsC
      have hb : (bbL O).length = O.length := by simp
      rw [show (bbL O ++ nils (cap - O.length)).take O.length = bbL O by rw [← hb, List.take_left], show (AV.lst .nil 1 []).cells = [AV.lst .nil 1 []] from rfl, repC_nils, bbL_append]
      simp [bbL_cons]
    rw [e]
    refine ⟨_, rfl, inertR_push hh (recs_inert _ _), .inr ⟨hne2, s.h.length, cap', fun hh2 => absurd (hF _ hh2) (Nat.lt_irrefl _), by simp, by simp, by simp; omega, h3⟩, fun i hi => ?_, by simp⟩
    exact List.getElem?_append_left (hF i hi)

def cutN (d : Dcb) (b : List UInt8) : Int := if d.fmt == 1 then d.lrecl else if d.fmt == 2 then descd b - 4 else b.length
def cutB (d : Dcb) (b : List UInt8) : List UInt8 := if d.fmt == 2 then b.drop 4 else b
def splitGo (d : Dcb) : Nat → List UInt8 → List (List UInt8) → List (List UInt8) × Bool
  | 0, _, O => (O, true)
  | k + 1, b, O => if b = [] then (O, true) else
      if cutN d b < 0 ∨ ((cutB d b).length : Int) < cutN d b ∨ fitsM d (cutN d b) = false then (O, false)
      else splitGo d k ((cutB d b).drop (cutN d b).toNat) (O ++ [(cutB d b).take (cutN d b).toNat])
def splitM (d : Dcb) (b : List UInt8) (O : List (List UInt8)) : List (List UInt8) × Bool :=
  if d.size < b.length then (O, false) else
  if d.fmt == 2 then (if descd b = b.length then splitGo d b.length (b.drop 4) O else (O, false)) else splitGo d b.length b O
theorem descd_len {b : List UInt8} (h : 0 ≤ descd b) : 4 ≤ b.length := by
  match b, h with
  | [], h => simp [descd] at h
  | [_], h => simp [descd] at h
  | [_, _], h => simp [descd] at h
  | [_, _, _], h => simp [descd] at h
  | _ :: _ :: _ :: _ :: _, _ => simp
theorem descd_rng (b : List UInt8) : -1 ≤ descd b ∧ descd b ≤ 65535 := by
  match b with
  | [] => simp [descd]
  | [_] => simp [descd]
  | [_, _] => simp [descd]
  | [_, _, _] => simp [descd]
  | b0 :: b1 :: _ :: _ :: _ =>
    have := b0.toNat_lt
    have := b1.toNat_lt
    simp only [descd]
    split
    · split
      · omega
      · omega
    · omega
end Go.AM
