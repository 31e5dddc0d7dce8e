/- The plain law: the specification's blocks are the program's. -/
import Derived.Test.YtmedlgfdabokaaaC22PB
namespace Go.AM
open Go.RowKit Go.Proofs
set_option linter.unusedSimpArgs false
set_option linter.unusedVariables false
set_option maxHeartbeats 1000000

theorem wrap_small {n : Int} (h1 : 1 ≤ n) (h2 : n ≤ 1024) : IntKind.i64.wrap (n - 4) = n - 4 := w64 (by omega) (by omega)
theorem keys_eq (d : Dcb) : keysM d = (if d.org == 3 then (d.fmt == 1 && inM d.klen 1 64 && inM d.kpos 0 (IntKind.i64.wrap (d.lrecl - d.klen))) else (d.klen == 0 && d.kpos == 0)) := by
  unfold keysM inM
  repeat' split
  all_goals first
    | (simp_all; done)
    | (simp_all; omega)
theorem lens_eq {d : Dcb} (h1 : 1 ≤ d.size) (h2 : d.size ≤ 1024) : lengthsM d = (if d.fmt == 1 then (if inM d.lrecl 1 d.size = false then false else if d.size == d.lrecl then true else if d.blk then d.size.tmod d.lrecl == 0 else false)
  else if d.fmt == 2 then (if (9 : Int) ≤ d.size then inM d.lrecl 5 (IntKind.i64.wrap (d.size - 4)) else false)
  else if d.fmt == 3 then (if (1 : Int) ≤ d.size then if d.lrecl == 0 then !d.blk else false else false) else false) := by
  have w := wrap_small h1 h2
  have s1 : ∀ n : Int, n.tmod n = 0 := fun n => Int.tmod_self
  unfold lengthsM inM
  rw [w]
  repeat' split
  all_goals first
    | (simp_all; done)
    | (exfalso; simp_all; omega)
    | (simp_all; omega)
    | skip
theorem valid_eq (d : Dcb) : validM d = decide (checkM d = 0) := by
  unfold validM checkM
  rw [← keys_eq]
  by_cases a1 : d.org < 1
  · have : inM d.org 1 3 = false := by unfold inM; rw [if_neg (by omega)]
    simp [a1, this]
  by_cases a2 : (3 : Int) < d.org
  · have : inM d.org 1 3 = false := by unfold inM; rw [if_pos (by omega)]; simp; omega
    simp [a1, a2, this]
  have a3 : inM d.org 1 3 = true := by unfold inM; rw [if_pos (by omega)]; simp; omega
  by_cases b1 : d.size < 1
  · rw [if_neg (by rw [a3]; simp), if_neg (by omega), if_neg a1, if_neg a2, if_pos b1]
    have e1 : inM d.lrecl 1 d.size = false := by unfold inM; split <;> simp; omega
    have e2 : ¬ (9 : Int) ≤ d.size := by omega
    have e3 : ¬ (1 : Int) ≤ d.size := by omega
    simp only [e1, if_true, if_neg e2, if_neg e3]
    simp
  by_cases b2 : (1024 : Int) < d.size
  · simp [a1, a2, a3, b1, b2]
  have hl := lens_eq (d := d) (by omega) (by omega)
  rw [← hl]
  simp only [if_neg a1, if_neg a2, a3, if_neg b1, if_neg b2]
  cases keysM d <;> cases lengthsM d <;> simp
theorem rfits_eq {d : Dcb} (hc : checkM d = 0) (n : Int) : rfitsM d n = fitsM d n := by
  unfold rfitsM fitsM inM
  rw [valid_eq, hc]
  simp

def rgoB (d : Dcb) : List (List UInt8) → List (List UInt8) → List (List UInt8) → Option (List (List UInt8) × List (List UInt8))
  | [], O, g => some (O, g)
  | r :: l, O, g => if rfitsM d r.length = false then none else
      if g ≠ [] ∧ (d.blk = false ∨ d.size < ((enc d (g ++ [r])).length : Nat)) then rgoB d l (O ++ [enc d g]) [r] else rgoB d l O (g ++ [r])
def rfinB (d : Dcb) : Option (List (List UInt8) × List (List UInt8)) → List (List UInt8) × Int
  | none => ([], 220)
  | some p => (if p.2 = [] then p.1 else p.1 ++ [enc d p.2], 0)
def rblockM (d : Dcb) (l : List (List UInt8)) : List (List UInt8) × Int :=
  if validM d = false then ([], 5) else if 4096 < l.length then ([], 2) else rfinB d (rgoB d l [] [])
theorem raw_nil (d : Dcb) : raw d [] = [] := rfl
theorem enc_snoc_len {d : Dcb} {g : List (List UInt8)} (h : g ≠ []) (r : List UInt8) : (enc d (g ++ [r])).length = (raw d g).length + lenM d r := by
  rw [raw_len h]
  unfold enc
  rw [body_snoc]
  split
  · simp [item_len]; omega
  · simp [item_len]
theorem rgoB_eq {d : Dcb} (hc : checkM d = 0) : ∀ (l O g : List (List UInt8)), (∀ r ∈ g, fitsM d r.length = true) → (rgoB d l O g).map (fun p => (p.1, raw d p.2)) = goB d l O (raw d g)
  | [], O, g, _ => rfl
  | r :: l, O, g, hg => by
    rw [rgoB, goB, rfits_eq hc]
    cases hf : fitsM d r.length with
    | false => simp
    | true =>
      simp only [Bool.true_eq_false, if_false]
      have hg2 : ∀ x ∈ g ++ [r], fitsM d x.length = true := by
        intro x hx
        rcases List.mem_append.1 hx with h | h
        · exact hg x h
        · rw [List.mem_singleton.1 h]; exact hf
      have h1 : ∀ x ∈ [r], fitsM d x.length = true := by
        intro x hx
        rw [List.mem_singleton.1 hx]; exact hf
      have hr1 : headB d [] r ++ r = raw d [r] := by
        have := head_raw hc (g := []) r (by simp)
        simpa [raw_nil] using this
      by_cases hn : g = []
      · subst hn
        rw [if_neg (by simp), raw_nil]
        have := rgoB_eq hc l O ([] ++ [r]) hg2
        rw [this]
        simp only [List.nil_append]
        rw [← hr1]
        split
        · simp [flushM]
        · rfl
      · have hfl : flushM d O (raw d g) = O ++ [enc d g] := by
          unfold flushM
          rw [if_neg (raw_ne hc hn hg), flush_raw hn]
        have hfull : fullM d (raw d g) r = true ↔ (d.blk = false ∨ d.size < ((enc d (g ++ [r])).length : Nat)) := by
          unfold fullM
          rw [enc_snoc_len hn]
          simp
        by_cases hq : fullM d (raw d g) r = true
        · rw [if_pos ⟨hn, hfull.1 hq⟩, if_pos hq, hfl, hr1]
          exact rgoB_eq hc l _ [r] h1
        · rw [if_neg (fun h => hq (hfull.2 h.2)), if_neg hq, head_raw hc r hg]
          exact rgoB_eq hc l O (g ++ [r]) hg2
theorem rblock_eq (d : Dcb) (l : List (List UInt8)) : rblockM d l = blockM d l := by
  unfold rblockM blockM
  rw [valid_eq]
  by_cases hc : checkM d = 0
  · rw [if_neg (by simp [hc]), if_pos hc]
    split
    · rfl
    · have h := rgoB_eq hc l [] [] (by simp)
      rw [raw_nil] at h
      rw [← h]
      cases hq : rgoB d l [] [] with
      | none => rfl
      | some p =>
        obtain ⟨O, g⟩ := p
        simp only [Option.map_some, rfinB, finB]
        by_cases hn : g = []
        · subst hn; simp [flushM, raw_nil]
        · rw [if_neg hn]
          have hg : ∀ r ∈ g, fitsM d r.length = true := by
            have : ∀ (l O g : List (List UInt8)) (p : List (List UInt8) × List (List UInt8)), (∀ r ∈ g, fitsM d r.length = true) → rgoB d l O g = some p → ∀ r ∈ p.2, fitsM d r.length = true := by
              intro l
              induction l with
              | nil => intro O g p hg h; rw [rgoB] at h; cases h; exact hg
              | cons r l ih =>
                intro O g p hg h
                rw [rgoB, rfits_eq hc] at h
                cases hf : fitsM d r.length with
                | false => rw [hf] at h; simp at h
                | true =>
                  rw [hf, if_neg (by simp)] at h
                  split at h
                  · refine ih _ _ p ?_ h
                    intro x hx
                    rw [List.mem_singleton.1 hx]; exact hf
                  · refine ih _ _ p ?_ h
                    intro x hx
                    rcases List.mem_append.1 hx with h | h
                    · exact hg x h
                    · rw [List.mem_singleton.1 h]; exact hf
            exact this l [] [] (O, g) (by simp) hq
          unfold flushM
          rw [if_neg (raw_ne hc hn hg), flush_raw hn]
  · have : checkM d = 5 := by
      unfold checkM at hc ⊢
      repeat' split
      all_goals first
        | rfl
        | (exfalso; simp_all)
    rw [if_pos (by simp [hc]), if_neg hc, this]

def oneM (d : Dcb) (b : List UInt8) : List (List UInt8) × Bool := if (splitM d b []).2 = true then ((splitM d b []).1, decide ((splitM d b []).1.length = 1) || (d.blk && decide (1 < (splitM d b []).1.length))) else ([], false)
def runbGo (d : Dcb) : List (List UInt8) → List (List UInt8) → Option (List (List UInt8))
  | [], O => some O
  | b :: l, O => if (oneM d b).2 = false then none else runbGo d l (O ++ (oneM d b).1)
def runbM (d : Dcb) (l : List (List UInt8)) : List (List UInt8) × Int := if validM d = false then ([], 5) else finU (runbGo d l [])
theorem splitGo_app2 (d : Dcb) : ∀ (k : Nat) (b : List UInt8) (O : List (List UInt8)), splitGo d k b O = (O ++ (splitGo d k b []).1, (splitGo d k b []).2)
  | 0, b, O => by simp [splitGo]
  | k + 1, b, O => by
    rw [splitGo, splitGo]
    split
    · simp
    · split
      · simp
      · rw [splitGo_app2 d k _ (O ++ _), splitGo_app2 d k _ ([] ++ _)]
        simp
theorem splitM_app2 (d : Dcb) (b : List UInt8) (O : List (List UInt8)) : splitM d b O = (O ++ (splitM d b []).1, (splitM d b []).2) := by
  unfold splitM
  split
  · simp
  · split
    · split
      · exact splitGo_app2 d _ _ O
      · simp
    · exact splitGo_app2 d _ _ O
theorem runbGo_eq (d : Dcb) : ∀ (l : List (List UInt8)) (O : List (List UInt8)), runbGo d l O = unbGo d l O
  | [], O => rfl
  | b :: l, O => by
    rw [runbGo, unbGo, splitM_app2 d b O]
    rcases hs : splitM d b [] with ⟨S, ok⟩
    have e : oneM d b = if ok = true then (S, decide (S.length = 1) || (d.blk && decide (1 < S.length))) else ([], false) := by unfold oneM; rw [hs]
    have hst : unbStep d O.length (O ++ S, ok) = (!ok || (decide (S.length = 0) || (!d.blk && decide (1 < S.length)))) := by
      unfold unbStep
      simp only [List.length_append]
      have e1 : (O.length + S.length == O.length) = decide (S.length = 0) := by rw [Bool.eq_iff_iff]; simp
      have e2 : decide (O.length + 1 < O.length + S.length) = decide (1 < S.length) := by rw [Bool.eq_iff_iff]; simp
      rw [e1, e2]
    simp only [hst, e]
    cases ok with
    | false => simp
    | true =>
      simp only [if_true, Bool.not_true, Bool.false_or]
      have hb : ((decide (S.length = 1) || (d.blk && decide (1 < S.length))) = false) ↔ ((decide (S.length = 0) || (!d.blk && decide (1 < S.length))) = true) := by
        generalize S.length = n
        cases d.blk <;> simp <;> omega
      by_cases h : (decide (S.length = 1) || (d.blk && decide (1 < S.length))) = false
      · rw [if_pos h, if_pos (hb.1 h)]
      · rw [if_neg h, if_neg (fun h2 => h (hb.2 h2))]
        exact runbGo_eq d l _
theorem check_5 {d : Dcb} (hc : ¬ checkM d = 0) : checkM d = 5 := by
  unfold checkM at hc ⊢
  repeat' split
  all_goals first
    | rfl
    | (exfalso; simp_all)
theorem runb_eq (d : Dcb) (l : List (List UInt8)) : runbM d l = unbM d l := by
  unfold runbM unbM
  rw [valid_eq]
  by_cases hc : checkM d = 0
  · rw [if_neg (by simp [hc]), if_pos hc, runbGo_eq]
  · rw [if_pos (by simp [hc]), if_neg hc, check_5 hc]
end Go.AM
