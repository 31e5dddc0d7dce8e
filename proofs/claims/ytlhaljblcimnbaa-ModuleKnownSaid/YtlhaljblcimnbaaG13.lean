/- Parts of the walk: C31OK C31VB C31OL C31OR. -/
import Derived.Test.YtlhaljblcimnbaaG12
namespace Go.AM
open Go.RowKit Go.Proofs
set_option linter.unusedSimpArgs false
set_option linter.unusedVariables false
set_option maxHeartbeats 8000000
def SB (top : Nat) (s : Esd) : Prop := s.kind = 1 ∧ 1 ≤ s.id ∧ s.id ≤ 41 ∧ 0 ≤ s.addr ∧ 0 ≤ s.len ∧ s.len ≤ 1020 ∧ s.addr + s.len ≤ top
theorem SB.mono {a b : Nat} (h : a ≤ b) {s : Esd} (hs : SB a s) : SB b s := by
 obtain ⟨h1, h2, h3, h4, h5, h6, h7⟩ := hs
 exact ⟨h1, h2, h3, h4, h5, h6, by omega⟩
end Go.AM
namespace Go.AM
open Go.RowKit Go.Proofs
set_option linter.unusedSimpArgs false
set_option linter.unusedVariables false
set_option maxHeartbeats 4000000
set_option maxRecDepth 10000
theorem esdGo_snoc : ∀ (l : List Esd) (x : Esd) (S : List (Int × Esd)) (N : List (List UInt8 × Int)) (nx : Int) (S' : List (Int × Esd)) (N' : List (List UInt8 × Int)) (nx' : Int), yh8 l S N nx = some (S', N', nx') → yr7 nx' x = true → dupM N' x = false →
  yh8 (l ++ [x]) S N nx = some (S1 S' x, N1 N' x, nx1 nx' x)
 | [], x, S, N, nx, S', N', nx', h, hr, hd => by
  simp only [yh8, Option.some.injEq, Prod.mk.injEq] at h
  obtain ⟨rfl, rfl, rfl⟩ := h
  rw [List.nil_append, yh8, if_pos hr, if_neg (by rw [hd]; simp), yh8]
 | y :: l, x, S, N, nx, S', N', nx', h, hr, hd => by
  rw [List.cons_append, yh8]
  rw [yh8] at h
  split at h
  ·rename_i h1
   rw [if_pos h1]
   split at h
   ·cases h
   ·rename_i h2
    rw [if_neg h2]
    exact esdGo_snoc l x _ _ _ S' N' nx' h hr hd
  ·cases h
theorem symG_ok : ∀ i, i < 40 → symM (symG i) = true := by decide +kernel
theorem symG_inj : ∀ i, i < 40 → ∀ j, j < i → symG j ≠ symG i := by decide +kernel
structure VO (i id addr : Nat) (secs acc : List Esd) : Prop where
 go : ∃ S N, yh8 acc [] [] 1 = some (S, N, (id : Int))
 nm : ∀ y ∈ acc, y.name = [] ∨ ∃ j, j < i ∧ y.name = symG j
 sc : ∀ s ∈ secs, acc.find? (isSec s.id) = some s ∧ 0 ≤ s.addr ∧ 0 ≤ s.len
 en : ∀ y ∈ acc, y.kind = 2 → ∃ s ∈ secs, s.id = y.id ∧ s.addr ≤ y.addr ∧ y.addr ≤ s.addr + s.len
 ad : addr ≤ 1020 * i
 il : acc.length ≤ i
 i4 : i ≤ 40
 ne : 0 < i → secs ≠ [] ∧ 2 ≤ id
 i1 : 1 ≤ id
theorem VO.step {i id addr : Nat} {secs acc : List Esd} (h : VO i id addr secs acc) (hi : i < 40) (x : Esd) (hr : yr7 (id : Int) x = true) (hn : x.name = [] ∨ x.name = symG i) (id' addr' : Nat) (secs' : List Esd) (hid : nx1 (id : Int) x = (id' : Int))
  (hs : ∀ s ∈ secs', (acc ++ [x]).find? (isSec s.id) = some s ∧ 0 ≤ s.addr ∧ 0 ≤ s.len) (hse : ∀ s ∈ secs, s ∈ secs') (he : x.kind = 2 → ∃ s ∈ secs', s.id = x.id ∧ s.addr ≤ x.addr ∧ x.addr ≤ s.addr + s.len) (ha : addr' ≤ 1020 * (i + 1)) (hne : secs' ≠ [] ∧ 2 ≤ id') : VO (i + 1) id' addr' secs' (acc ++ [x]) := by
 obtain ⟨S, N, hg⟩ := h.go
 have hE := esdGo_EInv acc [] [] S [] N 1 _ EInv.nil hg
 rw [List.nil_append] at hE
 have hd : dupM N x = false := by
  rw [hE.dup]
  rcases hn with hn | hn
  ·simp [hn]
  ·rw [Bool.and_eq_false_iff]
   right
   rw [List.any_eq_false]
   intro y hy hb
   have hb2 : y.name = x.name := by simpa using hb
   rcases h.nm y hy with h1 | ⟨j, hj, h1⟩
   ·rw [h1, hn] at hb2
    have := symG_ok i hi
    rw [← hb2] at this
    simp [symM] at this
   ·rw [h1, hn] at hb2
    exact symG_inj i hi j hj hb2
 have hg2 := esdGo_snoc acc x [] [] 1 S N _ hg hr hd
 refine ⟨⟨S1 S x, N1 N x, by rw [hg2, hid]⟩, fun y hy => ?_, hs, fun y hy hk => ?_, ha, by have := h.il; simp; omega, by omega, fun _ => hne, by omega⟩
 ·rcases List.mem_append.1 hy with hy | hy
  ·rcases h.nm y hy with h1 | ⟨j, hj, h1⟩
   ·exact .inl h1
   ·exact .inr ⟨j, by omega, h1⟩
  ·rw [List.mem_singleton.1 hy]
   rcases hn with hn | hn
   ·exact .inl hn
   ·exact .inr ⟨i, by omega, hn⟩
 ·rcases List.mem_append.1 hy with hy | hy
  ·obtain ⟨s, h1, h2⟩ := h.en y hy hk
   exact ⟨s, hse s h1, h2⟩
  ·rw [List.mem_singleton.1 hy] at hk ⊢
   exact he hk
end Go.AM
namespace Go.AM
open Go.RowKit Go.Proofs
set_option linter.unusedSimpArgs false
set_option linter.unusedVariables false
set_option maxHeartbeats 4000000
theorem AV.Le.agg {P : Program} {xs ys : List AV} (hl : xs.length = ys.length) (h : ∀ (j : Nat) (x y : AV), xs[j]? = some x → ys[j]? = some y → AV.Le P x y) : AV.Le P (.agg xs) (.agg ys) := fun c w u T hT h1 h2 => by
 simp only [AV.norm] at h1 h2 ⊢
 obtain ⟨us, rfl, hul, hrr⟩ := zs7 h1
 have hoo := own_agg h2
 have hln : ∀ l : List AV, (AV.normL T l).length = l.length := fun l => by induction l <;> simp_all [AV.normL]
 have key : ∀ j y, (AV.normL T ys)[j]? = some y → Rep c w y (us.getD j undef) ∧ Own P c w y (us.getD j undef) := by
  intro j y hj
  rw [yv8] at hj
  obtain ⟨y0, hy, rfl⟩ := Option.map_eq_some_iff.1 hj
  have hjl : j < xs.length := by rw [hl]; exact (List.getElem?_eq_some_iff.1 hy).1
  have hx : xs[j]? = some xs[j] := List.getElem?_eq_getElem hjl
  have hxn : (AV.normL T xs)[j]? = some (xs[j].norm T) := by rw [yv8, hx]; rfl
  exact h j _ _ hx hy c w _ T hT (hrr j _ hxn) (hoo j _ hxn)
 exact ⟨.agg (by rw [hln, ← hl, ← hul, hln]) fun j y hj => (key j y hj).1, .agg fun j y hj => (key j y hj).2⟩
structure OSn (o : OMod) : Prop where
 i : OIn o
 e : o.esd.length ≤ 1000
 t : o.txt.length ≤ 1000
 r : o.rld.length ≤ 1000
 d : ∀ t ∈ o.txt, t.data.length ≤ 1000
 n : ∀ x ∈ o.esd, x.name.length ≤ 1000
 en : o.entry.length ≤ 1000
 e0 : o.esd ≠ []
end Go.AM
namespace Go.AM
open Go.RowKit Go.Proofs
set_option linter.unusedSimpArgs false
set_option linter.unusedVariables false
set_option maxHeartbeats 4000000
end Go.AM
