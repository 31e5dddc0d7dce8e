/- The specification's Edit. -/
import Derived.Test.YtnakpjnigfpkpaaC05R2
namespace Go.AM
open Go.RowKit Go.Proofs
set_option linter.unusedSimpArgs false
set_option linter.unusedVariables false
set_option maxHeartbeats 2000000

theorem dg_small : ∀ (l : List UInt8) (d : Dg), d ∈ dgM l → d.n ≤ 15 ∧ d.sign ≤ 2
  | [], d, h => by simp [dgM] at h
  | b :: l, d, h => by
    have hb := b.toNat_lt
    unfold dgM at h
    split at h
    · simp at h
      subst h
      exact ⟨by simp, by simp⟩
    · rcases List.mem_append.1 h with h | h
      · unfold dgB at h
        split at h
        · simp at h
          rcases h with rfl | rfl <;> simp <;> omega
        · split at h <;> simp at h <;> subst h <;> simp <;> omega
      · exact dg_small l d h
theorem u8w (n : Nat) : IntKind.u8.wrap (n : Int) = ((UInt8.ofNat n).toNat : Nat) := by
  rw [UInt8.toNat_ofNat']
  simp only [IntKind.wrap_u8]
  omega
def resE (p : List UInt8 × Nat × Int × Nat) : AV := .tup [.agg [.lst .any 1 (byL p.1), .v (.int .i64 (p.2.1 : Nat)), .v (.int .i64 p.2.2.1)], .v (.int .i64 (p.2.2.2 : Nat))]
def txX (x : AV) (t : List UInt8) : Prop := (t = [] ∧ x = .lst .nil 1 []) ∨ x = .lst (.tip 5 217) 1 (byL t)
def edS (pat : List UInt8) (l : List Dg) (i : Nat) (s : Rs) (x : AV) : St :=
  ⟨122, [(0, .lst .any 1 (byL pat)), (4, .loc 0 0), (6, .lst .any 3 (dgL l)), (7, .v (.int .i64 s.next)), (8, .v (.bool s.on)), (9, .v (.bool s.some_)), (10, .loc 1 0), (11, .v (.int .i64 i))],
    [.cells 29 [.lst .nil 1 [], .v (.int .i64 0), .v (.int .i64 0)], .cells 29 [x, .v (.int .i64 0), .v (.int .i64 s.mark)]]⟩
def edS2 (pat : List UInt8) (l : List Dg) (i : Nat) (s : Rs) (x : AV) (out : UInt8) (g : List AObj) : St :=
  ⟨122, [(0, .lst .any 1 (byL pat)), (4, .loc 0 0), (6, .lst .any 3 (dgL l)), (7, .v (.int .i64 s.next)), (8, .v (.bool s.on)), (9, .v (.bool s.some_)), (10, .loc 1 0), (11, .v (.int .i64 i)), (13, .v (.int .u8 out.toNat))],
    [.cells 29 [.lst .nil 1 [], .v (.int .i64 0), .v (.int .i64 0)], .cells 29 [x, .v (.int .i64 0), .v (.int .i64 s.mark)]] ++ g⟩

theorem redit_sound (pat src : List UInt8) (hs : src.length ≤ 9000) (hp : pat.length ≤ 9000) : Sound Try.prog 13 [.lst .any 1 (byL pat), .lst .any 1 (byL src)] (resE (redM pat src)) := by
  refine sound_of_N Try.func13 rfl (by decide +kernel) (by simp [Try.f13]) rfl rfl (rs := [.cell 4 29, .tmp 5]) rfl ?_
  rw [show Try.f13.ntmps = 122 from rfl]
  refine W_evK [0, 1, 4] (by simp; rfl) ?_
  refine W_seq ?_
  by_cases h0 : pat.length = 0
  · have h0' : (pat.length : Int) < 1 := by omega
    refine W_evK [0, 1, 4, 22] (by simp [h0, h0']; rfl) ?_
    refine W_cond rfl (fun h => ?_) (fun h => by simp at h)
    refine W_evK [4, 5] (by simp [setSeg]; rfl) ?_
    refine W_ret ?_
    repeat (first | refine on_ret ?_ | refine in_ret ?_)
    exact ⟨_, by simp [retQ]; exact ⟨rfl, by simp⟩, .inr (by simp [redM, h0, resE])⟩
  have h0' : ¬ (pat.length : Int) < 1 := by omega
  by_cases h1 : 256 < pat.length
  · have h1' : (256 : Int) < pat.length := by omega
    refine W_evK [0, 1, 4, 22] (by simp [h0', h1, h1']; rfl) ?_
    refine W_cond rfl (fun h => ?_) (fun h => by simp at h)
    refine W_evK [4, 5] (by simp [setSeg]; rfl) ?_
    refine W_ret ?_
    repeat (first | refine on_ret ?_ | refine in_ret ?_)
    exact ⟨_, by simp [retQ]; exact ⟨rfl, by simp⟩, .inr (by simp [redM, h1, resE])⟩
  have h1' : ¬ (256 : Int) < pat.length := by omega
  have hlt : ¬ pat.length < 1 := by omega
  refine W_evK [0, 1, 4, 22] (by simp [h0', h1, h1', hlt]; rfl) ?_
  refine W_cond rfl (fun h => by simp at h) (fun h => ?_)
  refine W_skip ?_
  refine W_rK [0, 4, 6] ?_
  refine runA_pre 1 (by simp; rfl) rfl ?_
  refine runA_call (by simp) (by first | (simp; done) | (simp; rfl)) (digits_sound src hs) (by simp; rfl) ?_
  refine runA_fin (by simp; rfl) ?_
  have hll := dgM_le src
  have hsmall := dg_small src
  obtain ⟨l, hl⟩ : ∃ l, dgM src = l := ⟨_, rfl⟩
  rw [hl] at hll hsmall
  obtain ⟨p0, hp0⟩ : ∃ p0, pat[0]? = some p0 := ⟨_, List.getElem?_eq_getElem (by omega)⟩
  have hhead : pat.headD 0 = p0 := by
    cases pat with
    | nil => simp at h0
    | cons a t => simp at hp0; simp [hp0]
  have hM : redM pat src = if (rrun l p0 pat 0 rs0).1 ≠ 0 then ([], 0, 0, (rrun l p0 pat 0 rs0).1) else ((rrun l p0 pat 0 rs0).2.text, rcode (rrun l p0 pat 0 rs0).2, (rrun l p0 pat 0 rs0).2.mark, 0) := by
    unfold redM
    rw [if_neg (by omega), hl, hhead]
  rw [hl]
  refine W_evK [0, 4, 6, 7] (by simp; rfl) ?_
  refine W_evK [0, 4, 6, 7, 8] (by simp; rfl) ?_
  refine W_evK [0, 4, 6, 7, 8, 9] (by simp; rfl) ?_
  refine W_evK [0, 4, 6, 7, 8, 9, 10] (by simp [setSeg]; rfl) ?_
  refine W_seq ?_
  refine W_evK [0, 4, 6, 7, 8, 9, 10, 11] (by simp; rfl) ?_
  refine W_block ?_
  refine W_loop (fun k σ => ∃ (i : Nat) (s : Rs) (x : AV), k = pat.length - i ∧ i ≤ pat.length ∧ rrun l p0 pat 0 rs0 = rrun l p0 (pat.drop i) i s ∧ s.text.length = i ∧ s.next ≤ l.length ∧ txX x s.text ∧ σ = edS pat l i s x) (k := pat.length)
    ⟨0, rs0, _, rfl, by omega, by simp, rfl, by simp [rs0], .inl ⟨rfl, rfl⟩, by simp [edS, rs0]⟩ ?_
  rintro k σ ⟨i, s, x, rfl, hi, hrun, hti, hnext, hx, rfl⟩
  refine W_seq ?_
  by_cases ci : i < pat.length
  · have ci' : (i : Int) < pat.length := by omega
    obtain ⟨c, hc⟩ : ∃ c, pat[i]? = some c := ⟨_, List.getElem?_eq_getElem ci⟩
    have hc2 : pat[i]'ci = c := by rw [List.getElem?_eq_getElem ci] at hc; exact Option.some.inj hc
    have hp02 : pat[0]'(by omega) = p0 := by rw [List.getElem?_eq_getElem (by omega)] at hp0; exact Option.some.inj hp0
    have hdr : pat.drop i = c :: pat.drop (i + 1) := by rw [List.drop_eq_getElem_cons ci, hc2]
    have hclt := c.toNat_lt
    have wi := w64 (n := (i : Int) + 1) (by omega) (by omega)
    have wn := w64 (n := (s.next : Int) + 1) (by omega) (by omega)
    have p0' : (0 : Int) < pat.length := by omega
    have hne0 : pat ≠ [] := by intro e; subst e; simp at h0
    rw [hdr, rrun] at hrun
    have hb0 : (byL pat)[0]? = some (.v (.int .u8 p0.toNat)) := by simp [byL, hp0]
    have hbi : (byL pat)[i]? = some (.v (.int .u8 c.toNat)) := by simp [byL, hc]
    refine W_evK [0, 4, 6, 7, 8, 9, 10, 11, 30] (by simp [edS, ci, ci']; rfl) ?_
    refine W_cond rfl (fun h => ?_) (fun h => by simp at h)
    refine W_skip ?_
    refine W_seq ?_
    refine W_block ?_
    refine W_evK [0, 4, 6, 7, 8, 9, 10, 11, 12] (by simp [hbi, hc2, ci']; rfl) ?_
    refine W_evK [0, 4, 6, 7, 8, 9, 10, 11, 12, 13] (by simp [hb0, hp02, p0', show 0 < pat.length by omega]; rfl) ?_
    refine W_seqK (fun σ => ∃ (s' : Rs) (out : UInt8) (g : List AObj), rstep l p0 i c s = (0, { s' with text := s.text ++ [out] }) ∧ s'.next ≤ l.length ∧ σ = edS2 pat l i s' x out g) ?_ ?_
    · by_cases c34 : c.toNat = 34
      · refine W_evK [0, 4, 6, 7, 8, 9, 10, 11, 12, 13, 41] (by simp [c34]; rfl) ?_
        refine W_cond rfl (fun h => ?_) (fun h => by simp at h)
        refine W_evK [0, 4, 6, 7, 8, 9, 10, 11, 13] (by simp; rfl) ?_
        refine W_evE [0, 4, 6, 7, 8, 9, 10, 11, 13] (by simp; rfl) ?_
        exact ⟨⟨s.next, false, false, s.mark, s.text⟩, p0, [], by simp [rstep, c34], hnext, rfl⟩
      have c34' : ((c.toNat : Int) == 34) = false := by simp; omega
      refine W_evK [0, 4, 6, 7, 8, 9, 10, 11, 12, 13, 41] (by simp [c34']; rfl) ?_
      refine W_cond rfl (fun h => by simp at h) (fun h => ?_)
      by_cases cp : c.toNat ≠ 32 ∧ c.toNat ≠ 33
      · obtain ⟨c32, c33⟩ := cp
        have c32' : ((c.toNat : Int) != 32) = true := by simp; omega
        have c33' : ((c.toNat : Int) != 33) = true := by simp; omega
        refine W_evK [0, 4, 6, 7, 8, 9, 10, 11, 12, 13, 47] (by simp [c32', c33']; rfl) ?_
        refine W_cond rfl (fun h => ?_) (fun h => by simp at h)
        refine W_evK [0, 4, 6, 7, 8, 9, 10, 11, 12, 13, 48] (by simp; rfl) ?_
        cases hon : s.on with
        | true =>
          refine W_cond rfl (fun h => ?_) (fun h => by simp at h)
          refine W_evE [0, 4, 6, 7, 8, 9, 10, 11, 13] (by simp; rfl) ?_
          exact ⟨s, c, [], by simp [rstep, c34, c32, c33, hon], hnext, by simp [edS2, hon]⟩
        | false =>
          refine W_cond rfl (fun h => by simp at h) (fun h => ?_)
          refine W_keepS [0, 4, 6, 7, 8, 9, 10, 11, 13] ?_
          refine W_skip ?_
          exact ⟨s, p0, [], by simp [rstep, c34, c32, c33, hon], hnext, by simp [edS2, hon, keepS, keepF]⟩
      · have hcc : c.toNat = 32 ∨ c.toNat = 33 := by omega
        have hst : rstep l p0 i c s = rtake l p0 i (decide (c.toNat = 33)) s := by
          unfold rstep
          rcases hcc with h | h <;> simp [h]
        refine W_seqC (fun σ => σ = keepS [0, 4, 6, 7, 8, 9, 10, 11, 12, 13, 47] ⟨122, [(0, .lst .any 1 (byL pat)), (4, .loc 0 0), (6, .lst .any 3 (dgL l)), (7, .v (.int .i64 s.next)), (8, .v (.bool s.on)), (9, .v (.bool s.some_)), (10, .loc 1 0), (11, .v (.int .i64 i)), (12, .v (.int .u8 c.toNat)), (13, .v (.int .u8 p0.toNat)), (47, .v (.bool false))],
            [.cells 29 [.lst .nil 1 [], .v (.int .i64 0), .v (.int .i64 0)], .cells 29 [x, .v (.int .i64 0), .v (.int .i64 s.mark)]]⟩) ?_ ?_
        · rcases hcc with h | h
          · refine W_evE [0, 4, 6, 7, 8, 9, 10, 11, 12, 13, 47] (by simp [h]; rfl) ?_
            simp [onNormal, keepS, keepF, h]
          · refine W_evE [0, 4, 6, 7, 8, 9, 10, 11, 12, 13, 47] (by simp [h]; rfl) ?_
            simp [onNormal, keepS, keepF, h]
        rintro _ rfl
        simp only [keepS, keepF]
        refine W_cond rfl (fun h => by simp at h) (fun h => ?_)
        refine W_seq ?_
        by_cases cn : s.next = l.length
        · have cg : l[s.next]? = none := List.getElem?_eq_none (by omega)
          have hM5 : redM pat src = ([], 0, 0, 5) := by rw [hM, hrun, hst]; simp [rtake, cg]
          refine W_evK [0, 4, 6, 7, 8, 9, 10, 11, 12, 13, 53] (by simp [cn]; rfl) ?_
          refine W_cond rfl (fun h => ?_) (fun h => by simp at h)
          refine W_evK [4, 5] (by simp [setSeg]; rfl) ?_
          refine W_ret ?_
          repeat (first | refine on_ret ?_ | refine in_ret ?_)
          exact ⟨_, by simp [retQ]; exact ⟨rfl, by simp⟩, .inr (by simp [hM5, resE])⟩
        have cl : s.next < l.length := by omega
        have cn' : ((s.next : Int) == (l.length : Int)) = false := by simp; omega
        obtain ⟨d, hd⟩ : ∃ d, l[s.next]? = some d := ⟨_, List.getElem?_eq_getElem cl⟩
        have hd2 : l[s.next]'cl = d := by rw [List.getElem?_eq_getElem cl] at hd; exact Option.some.inj hd
        obtain ⟨hd15, hd22⟩ := hsmall d (List.mem_of_getElem? hd)
        have cl' : (s.next : Int) < l.length := by omega
        have hgd : (dgL l)[s.next]'(by simpa using cl) = dgA d := by simp [dgL, hd2]
        refine W_evK [0, 4, 6, 7, 8, 9, 10, 11, 12, 13, 53] (by simp [cn, cn']; rfl) ?_
        refine W_cond rfl (fun h => by simp at h) (fun h => ?_)
        refine W_skip ?_
        refine W_evK [0, 4, 6, 7, 8, 9, 10, 11, 12, 13, 14] (by simp [hgd, cl, cl', AV.weakL, AV.weak, AV.koneL, AV.kone, setSeg]; rfl) ?_
        refine W_evK [0, 4, 6, 7, 8, 9, 10, 11, 12, 13, 14] (by simp [wn]; rfl) ?_
        refine W_seq ?_
        cases hbad : d.bad with
        | true =>
          have hM7 : redM pat src = ([], 0, 0, 7) := by rw [hM, hrun, hst]; simp [rtake, hd, hbad]
          refine W_evK [0, 4, 6, 7, 8, 9, 10, 11, 12, 13, 14, 62] (by simp [hbad]; rfl) ?_
          refine W_cond rfl (fun h => ?_) (fun h => by simp at h)
          refine W_evK [4, 5] (by simp [setSeg]; rfl) ?_
          refine W_ret ?_
          repeat (first | refine on_ret ?_ | refine in_ret ?_)
          exact ⟨_, by simp [retQ]; exact ⟨rfl, by simp⟩, .inr (by simp [hM7, resE])⟩
        | false =>
        refine W_evK [0, 4, 6, 7, 8, 9, 10, 11, 12, 13, 14, 62] (by simp [hbad]; rfl) ?_
        refine W_cond rfl (fun h => by simp at h) (fun h => ?_)
        refine W_skip ?_
        have w240 : IntKind.i64.wrap (240 + (d.n : Int)) = ((240 + d.n : Nat) : Int) := by rw [w64 (by omega) (by omega)]; omega
        have u240 : IntKind.u8.wrap ((240 + d.n : Nat) : Int) = ((UInt8.ofNat (240 + d.n)).toNat : Int) := u8w (240 + d.n)
        have sB : ((d.sign : Int) != 1) = decide (d.sign ≠ 1) := by
          by_cases h : d.sign = 1
          · simp [h]
          · have : ¬ (d.sign : Int) = 1 := by omega
            simp [h, this]
        have hout : ∃ out, out = if s.on || decide (0 < d.n) then UInt8.ofNat (240 + d.n) else p0 := ⟨_, rfl⟩
        obtain ⟨out, hout⟩ := hout
        have hrt : rstep l p0 i c s = (0, ⟨s.next + 1, (s.on || decide (0 < d.n) || decide (c.toNat = 33)) && decide (d.sign ≠ 1), s.some_ || decide (0 < d.n), if !s.on && decide (0 < d.n) then i else s.mark, s.text ++ [out]⟩) := by
          rw [hst, rtake, hd]
          simp [hbad, hout]
        refine W_seqC (fun σ => σ = ⟨122, [(0, .lst .any 1 (byL pat)), (4, .loc 0 0), (6, .lst .any 3 (dgL l)), (7, .v (.int .i64 ((s.next : Int) + 1))), (8, .v (.bool s.on)), (9, .v (.bool s.some_)), (10, .loc 1 0), (11, .v (.int .i64 i)), (12, .v (.int .u8 c.toNat)), (13, .v (.int .u8 out.toNat)), (14, .loc 2 0)],
            [.cells 29 [.lst .nil 1 [], .v (.int .i64 0), .v (.int .i64 0)], .cells 29 [x, .v (.int .i64 0), .v (.int .i64 s.mark)], .cells 58 [.v (.int .i64 d.n), .v (.int .i64 d.sign), .v (.bool false)]]⟩) ?_ ?_
        · cases hon : s.on with
          | true =>
            refine W_evK [0, 4, 6, 7, 8, 9, 10, 11, 12, 13, 14, 69] (by simp [hon]; rfl) ?_
            refine W_cond rfl (fun h => ?_) (fun h => by simp at h)
            refine W_evE [0, 4, 6, 7, 8, 9, 10, 11, 12, 13, 14] (by simp [w240, u240, -Int.natCast_add]; rfl) ?_
            simp [onNormal, hout, hon, hbad]
          | false =>
            by_cases hn : 0 < d.n
            · refine W_evK [0, 4, 6, 7, 8, 9, 10, 11, 12, 13, 14, 69] (by simp [hon, hn]; rfl) ?_
              refine W_cond rfl (fun h => ?_) (fun h => by simp at h)
              refine W_evE [0, 4, 6, 7, 8, 9, 10, 11, 12, 13, 14] (by simp [w240, u240, -Int.natCast_add]; rfl) ?_
              simp [onNormal, hout, hon, hn, hbad]
            · refine W_evK [0, 4, 6, 7, 8, 9, 10, 11, 12, 13, 14, 69] (by simp [hon, hn]; rfl) ?_
              refine W_cond rfl (fun h => by simp at h) (fun h => ?_)
              refine W_keepS [0, 4, 6, 7, 8, 9, 10, 11, 12, 13, 14] ?_
              refine W_skip ?_
              simp [onNormal, keepS, keepF, hout, hon, hn, hbad]
        rintro _ rfl
        refine W_seqC (fun σ => σ = ⟨122, [(0, .lst .any 1 (byL pat)), (4, .loc 0 0), (6, .lst .any 3 (dgL l)), (7, .v (.int .i64 ((s.next : Int) + 1))), (8, .v (.bool s.on)), (9, .v (.bool s.some_)), (10, .loc 1 0), (11, .v (.int .i64 i)), (12, .v (.int .u8 c.toNat)), (13, .v (.int .u8 out.toNat)), (14, .loc 2 0)],
            [.cells 29 [.lst .nil 1 [], .v (.int .i64 0), .v (.int .i64 0)], .cells 29 [x, .v (.int .i64 0), .v (.int .i64 (if !s.on && decide (0 < d.n) then i else s.mark))], .cells 58 [.v (.int .i64 d.n), .v (.int .i64 d.sign), .v (.bool false)]]⟩) ?_ ?_
        · cases hon : s.on with
          | true =>
            refine W_evK [0, 4, 6, 7, 8, 9, 10, 11, 12, 13, 14, 80] (by simp [hon]; rfl) ?_
            refine W_cond rfl (fun h => by simp at h) (fun h => ?_)
            refine W_keepS [0, 4, 6, 7, 8, 9, 10, 11, 12, 13, 14] ?_
            refine W_skip ?_
            simp [onNormal, keepS, keepF, hon]
          | false =>
            by_cases hn : 0 < d.n
            · refine W_evK [0, 4, 6, 7, 8, 9, 10, 11, 12, 13, 14, 80] (by simp [hon, hn]; rfl) ?_
              refine W_cond rfl (fun h => ?_) (fun h => by simp at h)
              refine W_evE [0, 4, 6, 7, 8, 9, 10, 11, 12, 13, 14] (by simp [setSeg]; rfl) ?_
              simp [onNormal, hon, hn, setSeg]
            · refine W_evK [0, 4, 6, 7, 8, 9, 10, 11, 12, 13, 14, 80] (by simp [hon, hn]; rfl) ?_
              refine W_cond rfl (fun h => by simp at h) (fun h => ?_)
              refine W_keepS [0, 4, 6, 7, 8, 9, 10, 11, 12, 13, 14] ?_
              refine W_skip ?_
              simp [onNormal, keepS, keepF, hon, hn]
        rintro _ rfl
        obtain ⟨mk, hmk⟩ : ∃ mk : Int, mk = if !s.on && decide (0 < d.n) then (i : Int) else s.mark := ⟨_, rfl⟩
        rw [← hmk] at hrt ⊢
        refine W_seqC (fun σ => σ = ⟨122, [(0, .lst .any 1 (byL pat)), (4, .loc 0 0), (6, .lst .any 3 (dgL l)), (7, .v (.int .i64 ((s.next : Int) + 1))), (8, .v (.bool s.on)), (9, .v (.bool (s.some_ || decide (0 < d.n)))), (10, .loc 1 0), (11, .v (.int .i64 i)), (12, .v (.int .u8 c.toNat)), (13, .v (.int .u8 out.toNat)), (14, .loc 2 0)],
            [.cells 29 [.lst .nil 1 [], .v (.int .i64 0), .v (.int .i64 0)], .cells 29 [x, .v (.int .i64 0), .v (.int .i64 mk)], .cells 58 [.v (.int .i64 d.n), .v (.int .i64 d.sign), .v (.bool false)]]⟩) ?_ ?_
        · cases hsm : s.some_ with
          | true =>
            refine W_evE [0, 4, 6, 7, 8, 9, 10, 11, 12, 13, 14] (by simp [hsm]; rfl) ?_
            simp [onNormal, hsm]
          | false =>
            refine W_evE [0, 4, 6, 7, 8, 9, 10, 11, 12, 13, 14] (by simp [hsm]; rfl) ?_
            simp [onNormal, hsm]
        rintro _ rfl
        refine W_lastC (fun σ => σ = ⟨122, [(0, .lst .any 1 (byL pat)), (4, .loc 0 0), (6, .lst .any 3 (dgL l)), (7, .v (.int .i64 ((s.next : Int) + 1))), (8, .v (.bool ((s.on || decide (0 < d.n) || decide (c.toNat = 33)) && decide (d.sign ≠ 1)))), (9, .v (.bool (s.some_ || decide (0 < d.n)))), (10, .loc 1 0), (11, .v (.int .i64 i)), (13, .v (.int .u8 out.toNat))],
            [.cells 29 [.lst .nil 1 [], .v (.int .i64 0), .v (.int .i64 0)], .cells 29 [x, .v (.int .i64 0), .v (.int .i64 mk)], .cells 58 [.v (.int .i64 d.n), .v (.int .i64 d.sign), .v (.bool false)]]⟩) ?_ ?_
        · by_cases sg : d.sign = 1 <;> rcases hcc with hc32 | hc33 <;> cases hon : s.on <;> by_cases hn : 0 < d.n
          · refine W_rE [0, 4, 6, 7, 8, 9, 10, 11, 13] ?_
            refine runA_pre 6 (by simp [sB, sg, hc32, hon, hn]; rfl) rfl ?_
            refine runA_pre 6 (by simp [sB, sg, hc32, hon, hn]; rfl) rfl ?_
            refine runA_fin (by simp [sB, sg, hc32, hon, hn]; rfl) ?_
            simp [onNormal, hon, hn, sg, hc32]
          · refine W_rE [0, 4, 6, 7, 8, 9, 10, 11, 13] ?_
            refine runA_pre 6 (by simp [sB, sg, hc32, hon, hn]; rfl) rfl ?_
            refine runA_pre 6 (by simp [sB, sg, hc32, hon, hn]; rfl) rfl ?_
            refine runA_fin (by simp [sB, sg, hc32, hon, hn]; rfl) ?_
            simp [onNormal, hon, hn, sg, hc32]
          · refine W_rE [0, 4, 6, 7, 8, 9, 10, 11, 13] ?_
            refine runA_pre 6 (by simp [sB, sg, hc32, hon, hn]; rfl) rfl ?_
            refine runA_pre 6 (by simp [sB, sg, hc32, hon, hn]; rfl) rfl ?_
            refine runA_fin (by simp [sB, sg, hc32, hon, hn]; rfl) ?_
            simp [onNormal, hon, hn, sg, hc32]
          · refine W_rE [0, 4, 6, 7, 8, 9, 10, 11, 13] ?_
            refine runA_pre 6 (by simp [sB, sg, hc32, hon, hn]; rfl) rfl ?_
            refine runA_pre 6 (by simp [sB, sg, hc32, hon, hn]; rfl) rfl ?_
            refine runA_fin (by simp [sB, sg, hc32, hon, hn]; rfl) ?_
            simp [onNormal, hon, hn, sg, hc32]
          · refine W_rE [0, 4, 6, 7, 8, 9, 10, 11, 13] ?_
            refine runA_pre 6 (by simp [sB, sg, hc33, hon, hn]; rfl) rfl ?_
            refine runA_pre 6 (by simp [sB, sg, hc33, hon, hn]; rfl) rfl ?_
            refine runA_fin (by simp [sB, sg, hc33, hon, hn]; rfl) ?_
            simp [onNormal, hon, hn, sg, hc33]
          · refine W_rE [0, 4, 6, 7, 8, 9, 10, 11, 13] ?_
            refine runA_pre 6 (by simp [sB, sg, hc33, hon, hn]; rfl) rfl ?_
            refine runA_pre 6 (by simp [sB, sg, hc33, hon, hn]; rfl) rfl ?_
            refine runA_fin (by simp [sB, sg, hc33, hon, hn]; rfl) ?_
            simp [onNormal, hon, hn, sg, hc33]
          · refine W_rE [0, 4, 6, 7, 8, 9, 10, 11, 13] ?_
            refine runA_pre 6 (by simp [sB, sg, hc33, hon, hn]; rfl) rfl ?_
            refine runA_pre 6 (by simp [sB, sg, hc33, hon, hn]; rfl) rfl ?_
            refine runA_fin (by simp [sB, sg, hc33, hon, hn]; rfl) ?_
            simp [onNormal, hon, hn, sg, hc33]
          · refine W_rE [0, 4, 6, 7, 8, 9, 10, 11, 13] ?_
            refine runA_pre 6 (by simp [sB, sg, hc33, hon, hn]; rfl) rfl ?_
            refine runA_pre 6 (by simp [sB, sg, hc33, hon, hn]; rfl) rfl ?_
            refine runA_fin (by simp [sB, sg, hc33, hon, hn]; rfl) ?_
            simp [onNormal, hon, hn, sg, hc33]
          · refine W_rE [0, 4, 6, 7, 8, 9, 10, 11, 13] ?_
            refine runA_pre 6 (by simp [sB, sg, hc32, hon, hn]; rfl) rfl ?_
            refine runA_pre 6 (by simp [sB, sg, hc32, hon, hn]; rfl) rfl ?_
            refine runA_fin (by simp [sB, sg, hc32, hon, hn]; rfl) ?_
            simp [onNormal, hon, hn, sg, hc32]
          · refine W_rE [0, 4, 6, 7, 8, 9, 10, 11, 13] ?_
            refine runA_pre 6 (by simp [sB, sg, hc32, hon, hn]; rfl) rfl ?_
            refine runA_pre 6 (by simp [sB, sg, hc32, hon, hn]; rfl) rfl ?_
            refine runA_fin (by simp [sB, sg, hc32, hon, hn]; rfl) ?_
            simp [onNormal, hon, hn, sg, hc32]
          · refine W_rE [0, 4, 6, 7, 8, 9, 10, 11, 13] ?_
            refine runA_pre 6 (by simp [sB, sg, hc32, hon, hn]; rfl) rfl ?_
            refine runA_pre 6 (by simp [sB, sg, hc32, hon, hn]; rfl) rfl ?_
            refine runA_fin (by simp [sB, sg, hc32, hon, hn]; rfl) ?_
            simp [onNormal, hon, hn, sg, hc32]
          · refine W_rE [0, 4, 6, 7, 8, 9, 10, 11, 13] ?_
            refine runA_pre 6 (by simp [sB, sg, hc32, hon, hn]; rfl) rfl ?_
            refine runA_pre 6 (by simp [sB, sg, hc32, hon, hn]; rfl) rfl ?_
            refine runA_fin (by simp [sB, sg, hc32, hon, hn]; rfl) ?_
            simp [onNormal, hon, hn, sg, hc32]
          · refine W_rE [0, 4, 6, 7, 8, 9, 10, 11, 13] ?_
            refine runA_pre 6 (by simp [sB, sg, hc33, hon, hn]; rfl) rfl ?_
            refine runA_pre 6 (by simp [sB, sg, hc33, hon, hn]; rfl) rfl ?_
            refine runA_fin (by simp [sB, sg, hc33, hon, hn]; rfl) ?_
            simp [onNormal, hon, hn, sg, hc33]
          · refine W_rE [0, 4, 6, 7, 8, 9, 10, 11, 13] ?_
            refine runA_pre 6 (by simp [sB, sg, hc33, hon, hn]; rfl) rfl ?_
            refine runA_pre 6 (by simp [sB, sg, hc33, hon, hn]; rfl) rfl ?_
            refine runA_fin (by simp [sB, sg, hc33, hon, hn]; rfl) ?_
            simp [onNormal, hon, hn, sg, hc33]
          · refine W_rE [0, 4, 6, 7, 8, 9, 10, 11, 13] ?_
            refine runA_pre 6 (by simp [sB, sg, hc33, hon, hn]; rfl) rfl ?_
            refine runA_pre 6 (by simp [sB, sg, hc33, hon, hn]; rfl) rfl ?_
            refine runA_fin (by simp [sB, sg, hc33, hon, hn]; rfl) ?_
            simp [onNormal, hon, hn, sg, hc33]
          · refine W_rE [0, 4, 6, 7, 8, 9, 10, 11, 13] ?_
            refine runA_pre 6 (by simp [sB, sg, hc33, hon, hn]; rfl) rfl ?_
            refine runA_pre 6 (by simp [sB, sg, hc33, hon, hn]; rfl) rfl ?_
            refine runA_fin (by simp [sB, sg, hc33, hon, hn]; rfl) ?_
            simp [onNormal, hon, hn, sg, hc33]
        rintro _ rfl
        exact ⟨⟨s.next + 1, (s.on || decide (0 < d.n) || decide (c.toNat = 33)) && decide (d.sign ≠ 1), s.some_ || decide (0 < d.n), mk, s.text⟩, out, [.cells 58 [.v (.int .i64 d.n), .v (.int .i64 d.sign), .v (.bool false)]], hrt, by simp; omega, by simp [edS2]⟩
    · rintro σ ⟨s', out, g, hstep, hn', rfl⟩
      rw [hstep] at hrun
      simp only [ne_eq, not_true_eq_false, if_false] at hrun
      have hun : x.under 2 = true := by
        rcases hx with ⟨_, rfl⟩ | rfl <;> simp [AV.under, AV.underL]
      refine W_cutH 2 (by omega) (by simp [edS2]) (by simp [edS2, frUnder, AV.under, AV.underL]) (by simp [edS2, underH, AObj.under, AV.underL, AV.under, hun]) ?_
      have hkt : [AObj.cells 29 [.lst .nil 1 [], .v (.int .i64 0), .v (.int .i64 0)], .cells 29 [x, .v (.int .i64 0), .v (.int .i64 s'.mark)]] ++ g = .cells 29 [.lst .nil 1 [], .v (.int .i64 0), .v (.int .i64 0)] :: .cells 29 [x, .v (.int .i64 0), .v (.int .i64 s'.mark)] :: g := rfl
      simp only [edS2, hkt, List.take_succ_cons, List.take_zero]
      have fin : ∃ k', k' < pat.length - i ∧ ∃ (i' : Nat) (s2 : Rs) (x2 : AV), k' = pat.length - i' ∧ i' ≤ pat.length ∧ rrun l p0 pat 0 rs0 = rrun l p0 (pat.drop i') i' s2 ∧ s2.text.length = i' ∧ s2.next ≤ l.length ∧ txX x2 s2.text ∧
          edS pat l (i + 1) { s' with text := s.text ++ [out] } (.lst (.tip 5 217) 1 (byL (s.text ++ [out]))) = edS pat l i' s2 x2 :=
        ⟨_, by omega, i + 1, _, _, rfl, by omega, hrun, by simp [hti], hn', .inr rfl, rfl⟩
      rcases hx with ⟨h0, rfl⟩ | rfl
      · rw [h0] at fin
        refine W_evE [0, 4, 6, 7, 8, 9, 10, 11] (by simp [setSeg, catK, AV.cellsK, AV.kone, AV.koneL]; rfl) ?_
        refine W_evE [0, 4, 6, 7, 8, 9, 10, 11] (by simp [wi]; rfl) ?_
        simpa [edS, setSeg, byL] using fin
      · refine W_evE [0, 4, 6, 7, 8, 9, 10, 11] (by simp [setSeg, catK, AV.cellsK, AV.kone, AV.koneL, show s.text.length + 1 ≤ 140737488355328 by omega]; rfl) ?_
        refine W_evE [0, 4, 6, 7, 8, 9, 10, 11] (by simp [wi]; rfl) ?_
        simpa [edS, setSeg, byL] using fin
  · have hie : i = pat.length := by omega
    subst hie
    rw [List.drop_length, rrun] at hrun
    have hM0 : redM pat src = (s.text, rcode s, s.mark, 0) := by rw [hM, hrun]; simp
    refine W_evK [0, 4, 6, 7, 8, 9, 10, 11, 30] (by simp [edS]; rfl) ?_
    refine W_cond rfl (fun h => by simp at h) (fun h => ?_)
    refine W_exit ?_
    refine W_seq ?_
    cases hon : s.on <;> cases hsm : s.some_
    · refine W_evK [4, 8, 9, 10, 113] (by simp [edS, hon, hsm]; rfl) ?_
      refine W_cond rfl (fun h => by simp at h) (fun h => ?_)
      refine W_skip ?_
      refine W_seq ?_
      refine W_evK [4, 10, 119] (by simp [hon, hsm]; rfl) ?_
      refine W_cond rfl (fun h => by simp at h) (fun h => ?_)
      refine W_skip ?_
      rcases hx with ⟨h0, rfl⟩ | rfl
      · refine W_evK [4, 5] (by simp [setSeg]; rfl) ?_
        refine W_ret ?_
        repeat (first | refine on_ret ?_ | refine in_ret ?_)
        exact ⟨_, by simp [retQ]; exact ⟨rfl, by simp⟩, .inr (by simp [hM0, resE, rcode, hon, hsm, h0])⟩
      · refine W_evK [4, 5] (by simp [setSeg]; rfl) ?_
        refine W_ret ?_
        repeat (first | refine on_ret ?_ | refine in_ret ?_)
        exact ⟨_, by simp [retQ]; exact ⟨rfl, by simp⟩, .inr (by simp [hM0, resE, rcode, hon, hsm])⟩
    · refine W_evK [4, 8, 9, 10, 113] (by simp [edS, hon, hsm]; rfl) ?_
      refine W_cond rfl (fun h => by simp at h) (fun h => ?_)
      refine W_skip ?_
      refine W_seq ?_
      refine W_evK [4, 10, 119] (by simp [hon, hsm]; rfl) ?_
      refine W_cond rfl (fun h => ?_) (fun h => by simp at h)
      refine W_evE [4, 10] (by simp [setSeg]; rfl) ?_
      rcases hx with ⟨h0, rfl⟩ | rfl
      · refine W_evK [4, 5] (by simp [setSeg]; rfl) ?_
        refine W_ret ?_
        repeat (first | refine on_ret ?_ | refine in_ret ?_)
        exact ⟨_, by simp [retQ]; exact ⟨rfl, by simp⟩, .inr (by simp [hM0, resE, rcode, hon, hsm, h0])⟩
      · refine W_evK [4, 5] (by simp [setSeg]; rfl) ?_
        refine W_ret ?_
        repeat (first | refine on_ret ?_ | refine in_ret ?_)
        exact ⟨_, by simp [retQ]; exact ⟨rfl, by simp⟩, .inr (by simp [hM0, resE, rcode, hon, hsm])⟩
    · refine W_evK [4, 8, 9, 10, 113] (by simp [edS, hon, hsm]; rfl) ?_
      refine W_cond rfl (fun h => by simp at h) (fun h => ?_)
      refine W_skip ?_
      refine W_seq ?_
      refine W_evK [4, 10, 119] (by simp [hon, hsm]; rfl) ?_
      refine W_cond rfl (fun h => by simp at h) (fun h => ?_)
      refine W_skip ?_
      rcases hx with ⟨h0, rfl⟩ | rfl
      · refine W_evK [4, 5] (by simp [setSeg]; rfl) ?_
        refine W_ret ?_
        repeat (first | refine on_ret ?_ | refine in_ret ?_)
        exact ⟨_, by simp [retQ]; exact ⟨rfl, by simp⟩, .inr (by simp [hM0, resE, rcode, hon, hsm, h0])⟩
      · refine W_evK [4, 5] (by simp [setSeg]; rfl) ?_
        refine W_ret ?_
        repeat (first | refine on_ret ?_ | refine in_ret ?_)
        exact ⟨_, by simp [retQ]; exact ⟨rfl, by simp⟩, .inr (by simp [hM0, resE, rcode, hon, hsm])⟩
    · refine W_evK [4, 8, 9, 10, 113] (by simp [edS, hon, hsm]; rfl) ?_
      refine W_cond rfl (fun h => ?_) (fun h => by simp at h)
      refine W_evE [4, 8, 9, 10] (by simp [setSeg]; rfl) ?_
      refine W_seq ?_
      refine W_evK [4, 10, 119] (by simp [hon, hsm]; rfl) ?_
      refine W_cond rfl (fun h => by simp at h) (fun h => ?_)
      refine W_skip ?_
      rcases hx with ⟨h0, rfl⟩ | rfl
      · refine W_evK [4, 5] (by simp [setSeg]; rfl) ?_
        refine W_ret ?_
        repeat (first | refine on_ret ?_ | refine in_ret ?_)
        exact ⟨_, by simp [retQ]; exact ⟨rfl, by simp⟩, .inr (by simp [hM0, resE, rcode, hon, hsm, h0])⟩
      · refine W_evK [4, 5] (by simp [setSeg]; rfl) ?_
        refine W_ret ?_
        repeat (first | refine on_ret ?_ | refine in_ret ?_)
        exact ⟨_, by simp [retQ]; exact ⟨rfl, by simp⟩, .inr (by simp [hM0, resE, rcode, hon, hsm])⟩
end Go.AM
