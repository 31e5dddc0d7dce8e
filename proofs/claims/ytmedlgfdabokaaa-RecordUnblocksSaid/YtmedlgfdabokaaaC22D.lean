/- Block. -/
import Derived.Test.YtmedlgfdabokaaaC22C
namespace Go.AM
open Go.RowKit Go.Proofs
set_option linter.unusedSimpArgs false
set_option linter.unusedVariables false
set_option maxHeartbeats 1000000

theorem blkOk.arr {rest : List AObj} {x : AV} {B : List UInt8} (h : blkOk rest x B) (hne : B ≠ []) : ∃ id cap, x = .arr id 0 B.length cap := by
  rcases h with ⟨h0, _⟩ | ⟨_, j, cap, Bf, rfl, _⟩
  · exact absurd h0 hne
  · exact ⟨_, _, rfl⟩
theorem len_book (d : Dcb) (x y : AV) (rest : List AObj) : (bookH d x y rest).length = rest.length + 3 := by simp [bookH]
theorem z5c : (AV.v (.int .u8 0)).cells = [AV.v (.int .u8 0)] := rfl
theorem blk_app {d : Dcb} {x y0 x1 : AV} {rest : List AObj} {B ys Bf : List UInt8} {j cap : Nat} {s s1 : St} (hh : s.h = bookH d x y0 rest) (hr : shutR rest) (hj : rest[j]? = some (.cells 5 (byL Bf))) (hcap : Bf.length = cap) (htk : Bf.take B.length = B) (hmx : cap ≤ maxLen) (hne : B ≠ [])
    (h : appQ s 5 1 (j + 3) B.length cap (byL ys).length (byL ys) (byL Bf) (AV.v (.int .u8 0)).cells s1 x1) : ∃ rest', s1 = ⟨s.n, s.fr, bookH d x y0 rest'⟩ ∧ blkOk rest' x1 (B ++ ys) ∧ shutR rest' := by
  have hle : B.length ≤ cap := by rw [← htk, List.length_take]; omega
  have hne2 : B ++ ys ≠ [] := by simp [hne]
  unfold appQ at h
  rw [byL_length, weakL_byL, Nat.mul_one, z5c] at h
  rcases h with ⟨h1, rfl, rfl⟩ | ⟨h1, cap', h2, h3, rfl, rfl⟩
  · refine ⟨rest.set j (.cells 5 (byL (Bf.take B.length ++ ys ++ Bf.drop (B.length + ys.length)))), ?_, .inr ⟨hne2, j, cap, Bf.take B.length ++ ys ++ Bf.drop (B.length + ys.length), by rw [List.length_append], ?_, ?_, ?_, hmx⟩, shutR_set hr j ⟨_, .inl rfl⟩⟩
    · rw [hh, setSeg_bytes]
      simp [bookH]
    · exact List.getElem?_set_self (List.getElem?_eq_some_iff.1 hj).1
    · simp; omega
    · rw [htk, List.length_append, ← List.length_append, List.take_left]
  · refine ⟨rest ++ [.cells 5 (byL (B ++ ys ++ List.replicate (cap' - (B.length + ys.length)) 0))], ?_, .inr ⟨hne2, rest.length, cap', B ++ ys ++ List.replicate (cap' - (B.length + ys.length)) 0, by rw [hh, len_book, List.length_append], ?_, ?_, ?_, h3⟩, shutR_push hr ⟨_, .inl rfl⟩⟩
    · rw [hh, ← byL_take, htk, repC_bytes, ← byL_append, ← byL_append]
      simp [bookH]
    · simp
    · simp; omega
    · rw [List.take_left]
theorem blk_new {rest : List AObj} {ys : List UInt8} {cap : Nat} (hr : shutR rest) (hne : ys ≠ []) (h1 : ys.length ≤ cap) (hm : cap ≤ maxLen) :
    blkOk (rest ++ [.cells 5 (byL (ys ++ List.replicate (cap - ys.length) 0))]) (.arr (rest.length + 3) 0 ys.length cap) ys ∧ shutR (rest ++ [.cells 5 (byL (ys ++ List.replicate (cap - ys.length) 0))]) :=
  ⟨.inr ⟨hne, rest.length, cap, ys ++ List.replicate (cap - ys.length) 0, rfl, by simp, by simp; omega, List.take_left, hm⟩, shutR_push hr ⟨_, .inl rfl⟩⟩

def startB (d : Dcb) (B : List UInt8) : List UInt8 := if d.fmt == 2 then (if B = [] then [0, 0, 0, 0] else B) else B
def headB (d : Dcb) (B r : List UInt8) : List UInt8 := if d.fmt == 2 then startB d B ++ desc (r.length + 4) else B
def fullM (d : Dcb) (B r : List UInt8) : Bool := !d.blk || decide (d.size < (B.length + lenM d r : Nat))
def goB (d : Dcb) : List (List UInt8) → List (List UInt8) → List UInt8 → Option (List (List UInt8) × List UInt8)
  | [], O, B => some (O, B)
  | r :: l, O, B => if fitsM d r.length = false then none else
      if fullM d B r = true then goB d l (flushM d O B) (headB d [] r ++ r) else goB d l O (headB d B r ++ r)
def finB (d : Dcb) : Option (List (List UInt8) × List UInt8) → List (List UInt8) × Int
  | none => ([], 220)
  | some p => (flushM d p.1 p.2, 0)
def blockM (d : Dcb) (l : List (List UInt8)) : List (List UInt8) × Int :=
  if checkM d = 0 then if 4096 < l.length then ([], 2) else finB d (goB d l [] []) else ([], checkM d)
def resB (p : List (List UInt8) × Int) : AV := .tup [.lst (.tip 35 1) 1 (bbL p.1), .v (.int .i64 p.2)]

theorem check_facts {d : Dcb} (h : checkM d = 0) : 1 ≤ d.org ∧ d.org ≤ 3 ∧ 1 ≤ d.size ∧ d.size ≤ 1024 ∧ lengthsM d = true ∧ keysM d = true := by
  unfold checkM at h
  split at h
  · cases h
  split at h
  · cases h
  split at h
  · cases h
  split at h
  · cases h
  split at h
  · cases h
  split at h
  · cases h
  rename_i h1 h2 h3 h4 h5 h6
  exact ⟨by omega, by omega, by omega, by omega, by simpa using h5, by simpa using h6⟩
theorem lens_facts {d : Dcb} (h1 : 1 ≤ d.size) (h2 : d.size ≤ 1024) (h : lengthsM d = true) : (d.fmt = 1 ∧ 1 ≤ d.lrecl ∧ d.lrecl ≤ d.size) ∨ (d.fmt = 2 ∧ 4 < d.lrecl ∧ d.lrecl ≤ d.size - 4) ∨ (d.fmt = 3 ∧ d.lrecl = 0 ∧ d.blk = false) := by
  unfold lengthsM at h
  split at h
  · rename_i e
    left
    have e : d.fmt = 1 := by simpa using e
    split at h
    · cases h
    · split at h
      · cases h
      · exact ⟨e, by omega, by omega⟩
  · split at h
    · rename_i e
      right; left
      have e : d.fmt = 2 := by simpa using e
      split at h
      · have := of_decide_eq_true h
        rw [w64 (by omega) (by omega)] at this
        exact ⟨e, by omega, this⟩
      · cases h
    · split at h
      · rename_i e
        right; right
        have e : d.fmt = 3 := by simpa using e
        split at h
        · rename_i e2
          exact ⟨e, by simpa using e2, by simpa using h⟩
        · cases h
      · cases h
theorem fits_facts {d : Dcb} {n : Int} (hc : checkM d = 0) (h : fitsM d n = true) : 1 ≤ n ∧ n ≤ 1024 ∧ (d.fmt = 2 → n ≤ d.lrecl - 4 ∧ n + 8 ≤ d.size) ∧ n ≤ d.size := by
  obtain ⟨_, _, c3, c4, c5, _⟩ := check_facts hc
  have hl := lens_facts c3 c4 c5
  unfold fitsM at h
  split at h
  · rename_i e
    have e : d.fmt = 1 := by simpa using e
    have : n = d.lrecl := by simpa using h
    refine ⟨by omega, by omega, fun e2 => by omega, by omega⟩
  · split at h
    · rename_i e0 e
      have e : d.fmt = 2 := by simpa using e
      split at h
      · have := of_decide_eq_true h
        rw [w64 (by omega) (by omega)] at this
        exact ⟨by omega, by omega, fun _ => ⟨this, by omega⟩, by omega⟩
      · cases h
    · rename_i e0 e
      have e : ¬ d.fmt = 2 := by simpa using e
      split at h
      · have := of_decide_eq_true h
        exact ⟨by omega, by omega, fun e2 => absurd e2 e, this⟩
      · cases h
end Go.AM
