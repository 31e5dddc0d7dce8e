/- Parts of the walk: C31OO C31OV C31OP0 C31OP1 C31OP2 C31OP3 C31OJ. -/
import Derived.Test.YtlhaljblcimnbaaG10
namespace Go.AM
open Go.RowKit Go.Proofs
set_option linter.unusedSimpArgs false
set_option linter.unusedVariables false
set_option maxHeartbeats 4000000
theorem i64r_wrap (x : Int) : i64r (IntKind.i64.wrap x) := by
 simp [i64r, IntKind.wrap, IntKind.signed, IntKind.bits]; omega
theorem OSm_e {o : OMod} (ho : OSm o) (q : Nat) (e : Esd) (h : e.name.length ≤ 9223372036854775807 ∧ i64r e.addr) : OSm ⟨o.esd.set q e, o.txt, o.rld, o.entry⟩ :=
 ⟨⟨fun x hx => by rcases List.mem_or_eq_of_mem_set hx with hx | rfl; exact ho.i.e x hx; exact h, ho.i.t, ho.i.r⟩, by simpa using ho.e, ho.t, ho.r⟩
theorem OSm_t {o : OMod} (ho : OSm o) (q : Nat) (e : Txt) (h : i64r e.addr ∧ e.data.length ≤ 140737488355328) : OSm ⟨o.esd, o.txt.set q e, o.rld, o.entry⟩ :=
 ⟨⟨ho.i.e, fun x hx => by rcases List.mem_or_eq_of_mem_set hx with hx | rfl; exact ho.i.t x hx; exact h, ho.i.r⟩, ho.e, by simpa using ho.t, ho.r⟩
theorem OSm_r {o : OMod} (ho : OSm o) (q : Nat) (e : Rld) (h : i64r e.addr) : OSm ⟨o.esd, o.txt, o.rld.set q e, o.entry⟩ :=
 ⟨⟨ho.i.e, ho.i.t, fun x hx => by rcases List.mem_or_eq_of_mem_set hx with hx | rfl; exact ho.i.r x hx; exact h⟩, ho.e, ho.t, by simpa using ho.r⟩
theorem OSm_n {o : OMod} (ho : OSm o) (n : List UInt8) : OSm ⟨o.esd, o.txt, o.rld, n⟩ := ⟨⟨ho.i.e, ho.i.t, ho.i.r⟩, ho.e, ho.t, ho.r⟩
theorem strA2 (a b : List UInt8) (h : a.length + b.length ≤ 9223372036854775807) : strA .add ⟨a.toArray⟩ ⟨b.toArray⟩ = some (.v (.string ⟨(a ++ b).toArray⟩)) := by
 have e : ((ByteArray.mk a.toArray).size + (ByteArray.mk b.toArray).size : Int) ≤ 9223372036854775807 := by
  show ((a.toArray.size : Nat) : Int) + (b.toArray.size : Nat) ≤ _
  simp only [List.size_toArray]; omega
 unfold strA
 simp only
 rw [if_pos e]
 have : (ByteArray.mk a.toArray) ++ (ByteArray.mk b.toArray) = ByteArray.mk (a ++ b).toArray := by
  apply ByteArray.ext
  simp [ByteArray.data_append]
 rw [this]
theorem evOp_addS {P : Program} {o : Oper} {s s' : St} {k t t' : Nat} {y0 : Operand} {a b : List UInt8} (ho : o.op = .binOp .add t (.tmp k) y0 t') (h1 : getF s.fr k = some (strB a)) (h2 : s.ev y0 = some (strB b)) (hl : a.length + b.length ≤ 9223372036854775807) (hp : s.put o.dst (strB (a ++ b)) = some s') : evOp P o s = some s' := by
 have h3 : s.ev (.tmp k) = some (strB a) := h1
 unfold evOp
 simp only [ho]
 unfold vs9
 simp only [ho, h3, h2, Option.bind_some]
 have : binA P .add t (strB a) (strB b) = some (strB (a ++ b)) := strA2 a b hl
 rw [this]
 exact hp
theorem runA_addS {P : Program} {ops l : List Oper} {o : Oper} {s s' : St} {k t t' : Nat} {y0 : Operand} {a b : List UInt8} {K : St → Prop} (hg : xs9 ops s o = some true) (ho : o.op = .binOp .add t (.tmp k) y0 t') (h1 : getF s.fr k = some (strB a)) (h2 : s.ev y0 = some (strB b)) (hl : a.length + b.length ≤ 9223372036854775807) (hp : s.put o.dst (strB (a ++ b)) = some s') (hk : runA P ops l s' K) : runA P ops (o :: l) s K := by
 show ww8 P ops o s _
 unfold ww8
 rw [hg]
 exact .inl ⟨s', evOp_addS ho h1 h2 hl hp, hk⟩
theorem runD_addS {P : Program} {ops l : List Oper} {o : Oper} {s s' : St} {k t t' : Nat} {y0 : Operand} {a b : List UInt8} {K : St → Prop} (hg : xs9 ops s o = some true) (ho : o.op = .binOp .add t (.tmp k) y0 t') (h1 : getF s.fr k = some (strB a)) (h2 : s.ev y0 = some (strB b)) (hl : a.length + b.length ≤ 9223372036854775807) (hp : s.put o.dst (strB (a ++ b)) = some s') (hk : runD P ops l s' K) : runD P ops (o :: l) s K := by
 show vl8 P ops o s _
 unfold vl8
 rw [hg]
 refine .inl ⟨s', ?_, hk⟩
 rw [show yc8 P s o = true by unfold yc8; rw [ho]]
 exact evOp_addS ho h1 h2 hl hp
theorem u8_wrap (x : Int) : 0 ≤ IntKind.u8.wrap x ∧ IntKind.u8.wrap x < 256 := by
 simp [IntKind.wrap, IntKind.signed, IntKind.bits]; omega
theorem bytesA1 (x : Int) : zd7 [.v (.int .u8 (IntKind.u8.wrap x))] = some [UInt8.ofNat (IntKind.u8.wrap x).toNat] := by
 obtain ⟨h1, h2⟩ := u8_wrap x
 simp [zd7, h1, h2]
def txN (p : Txt × Bool) : List AV := [.v (.int .i64 p.1.id), .v (.int .i64 p.1.addr), if p.2 = true then .lst .nil 1 [] else .lst .any 1 (byL p.1.data)]
theorem txN_len (p : Txt × Bool) : (txN p).length = 3 := rfl
theorem flC_txN (l : List Txt) : flC txN (l.map fun t => (t, false)) = flC txC l := by
 induction l with
 | nil => rfl
 | cons t l ih => rw [List.map_cons, vd9, vd9, ih]; rfl
theorem weakL_flN (l : List (Txt × Bool)) (h : ∀ p ∈ l, p.2 = true → p.1.data = []) : AV.weakL (flC txN l) = flC txC (l.map (·.1)) := by
 induction l with
 | nil => rfl
 | cons p l ih =>
  rw [vd9, vm8, ih fun p hp => h p (List.mem_cons_of_mem _ hp)]
  have h0 := h p List.mem_cons_self
  rcases p with ⟨t, _ | _⟩ <;> simp_all [vd9, txN, txC, AV.weakL, AV.weak, Fl.wk]
theorem frz_flW {α β : Type} {F : α → List AV} {G : β → List AV} {g : α → β} {sz ty id k cap : Nat} {h : List AObj} {l : List α} (hid : h[id]? = some (.cells ty (flC F l ++ List.replicate k .any))) (hty : tyI Try.prog ty = some (true, sz)) (hsz : 0 < sz) (hF : ∀ x, (F x).length = sz) (hG : ∀ x, (G x).length = sz)
  (a1 : AV.weakL (flC F l) = flC G (l.map g)) (a3 : AV.rfL (flC F l) = true) (a4 : AV.koneL (flC F l) = true) : ∃ o h', wk9 Try.prog h 1 id 0 l.length cap = some (.lst o sz ((l.map g).map fun x => .agg (G x)), h') ∧ (o = .any ∨ o = .tip ty 1) := by
 have hlen := flC_length hF l
 have hw : AV.weakL (flC F l ++ List.replicate k .any) = flC G (l.map g) ++ List.replicate k .any := by
  rw [vm8, a1]
  rw [weakL_rep31]
 have ht : (flC F l ++ List.replicate k AV.any).take (0 + l.length * sz) = flC F l := by rw [Nat.zero_add, ← hlen, List.take_left']; rfl
 have hlm : l.length = (l.map g).length := by simp
 unfold wk9
 simp only [hid, hty]
 split
 ·rw [hw, List.drop_zero, hlm, chunk_flC hG]
  refine ⟨_, _, rfl, ?_⟩
  split
  ·exact .inr rfl
  ·exact .inl rfl
 ·rw [if_pos (by rw [ht]; exact ⟨hsz, .inl trivial, by simp [hlen], a4, a3⟩), ht, a1, List.drop_zero]
  have hc := chunk_flC hG (l.map g) []
  rw [List.append_nil] at hc
  rw [hlm, hc]
  exact ⟨_, _, rfl, .inl rfl⟩
@[simp] theorem rfL_flN (l : List (Txt × Bool)) : AV.rfL (flC txN l) = true := by
 induction l with
 | nil => rfl
 | cons p l ih => rcases p with ⟨t, _ | _⟩ <;> simp_all [vd9, txN, AV.rfL, AV.rf]
@[simp] theorem koneL_flN (l : List (Txt × Bool)) : AV.koneL (flC txN l) = true := by
 induction l with
 | nil => rfl
 | cons p l ih => rcases p with ⟨t, _ | _⟩ <;> simp_all [vd9, txN, AV.koneL, AV.kone, Value.oneCell']
theorem txN_set {l : List Txt} {q : Nat} {t : Txt} (h : l[q]? = some t) (rs : List AV) : yd9 (flC txC l ++ rs) (q * 3 + 2) [.lst .nil 1 []] = flC txN ((l.map fun t => (t, false)).set q (⟨t.id, t.addr, []⟩, true)) ++ rs := by
 rw [← flC_txN]
 exact flC_set (k := q) txN_len (r := (t, false)) (by simp [h]) _ 2 _ rfl (by simp)
theorem setSeg_one {cs : List AV} {i : Nat} (y : AV) (h : i < cs.length) : yd9 cs i [y] = cs.set i y := by
 unfold yd9
 rw [List.set_eq_take_append_cons_drop, if_pos h]
 simp
def z57 : List UInt8 := List.replicate 57 0
theorem z57_len : z57.length = 57 := by simp [z57]
theorem frz57 {h : List AObj} (hg : h[3]? = some (.cells 5 (repC 57 [.v (.int .u8 0)]))) : wk9 Try.prog h 1 3 0 57 57 = some (.lst (.tip 5 1) 1 (byL z57), h.set 3 (.froz 5 (byL z57))) := by
 have e : repC 57 [.v (.int .u8 0)] = byL z57 := rfl
 have e2 : tyI Try.prog 5 = some (false, 1) := by simp
 rw [e] at hg
 unfold wk9
 simp only [hg, e2]
 rfl
end Go.AM
namespace Go.AM
open Go.RowKit Go.Proofs
set_option linter.unusedSimpArgs false
set_option linter.unusedVariables false
set_option maxHeartbeats 8000000
theorem tmod16 {n k : Nat} (h : n % 16 = k) : Int.tmod (n : Int) 16 = (k : Nat) := by rw [show Int.tmod (n : Int) 16 = ((n % 16 : Nat) : Int) from rfl, h]
theorem spoN (n : Nat) (hn : n < 256) : ∃ n16 : Nat, n16 < 16 ∧ Int.tdiv (n : Int) 16 = (n16 : Nat) ∧ IntKind.u8.wrap (n16 : Nat) = (n16 : Nat) ∧ IntKind.i64.wrap (n16 : Nat) = (n16 : Nat) :=
 ⟨n / 16, by omega, rfl, wu8 (by omega) (by omega), w64 (by omega) (by omega)⟩
theorem spoX {α : Type} (l : List α) (h0 : l ≠ []) (hl : l.length ≤ 1000) (n16 : Nat) : ∃ (q : Nat) (x : α), l[q]? = some x ∧ q < l.length ∧ (q : Int) < (l.length : Nat) ∧ 0 < l.length ∧ ¬ l.length = 0 ∧ ¬ (l.length : Int) = 0 ∧ Int.tmod (n16 : Int) (l.length : Nat) = (q : Nat) ∧ IntKind.i64.wrap (q : Nat) = (q : Nat) ∧ ∃ h : q < l.length, l[q]'h = x := by
 have hp := List.length_pos_iff.2 h0
 have hq := Nat.mod_lt n16 hp
 exact ⟨n16 % l.length, l[n16 % l.length], List.getElem?_eq_getElem hq, hq, by omega, hp, by omega, by omega, rfl, w64 (by omega) (by omega), hq, rfl⟩
def sq1 : Code → Code
 | .seq a _ => a
 | c => c
def sq2 : Code → Code
 | .seq _ b => b
 | c => c
theorem beqF {k j : Nat} (h : k ≠ j) : (((k : Nat) : Int) == (j : Nat)) = false := by
 simp; omega
theorem tail2 {o : OMod} (ho : OSn o) {n k : Nat} (hn : n < 256) (hk : n % 16 = k) (hne : k < 8 ∨ 12 ≤ k ∨ o.txt = []) {b : Int} {A C D : AV} {H : List AObj} {Q : Exit → St → Prop} {y c2 : Code} (hc : sq1 (sq2 (sq2 (sq2 (sq2 (Try.f13.body.getD .skip))))) = c2)
  (h : Wt true 0 Try.prog y Q ⟨215, [(1, .v (.int .u8 n)), (2, .v (.int .i64 b)), (3, .loc 0 0), (6, .loc 1 0)], .cells 26 [A, .lst .any 3 (txL o.txt), C, D] :: H⟩) :
  Wt true 0 Try.prog (.seq c2 y) Q ⟨215, [(1, .v (.int .u8 n)), (2, .v (.int .i64 b)), (3, .loc 0 0), (6, .loc 1 0)], .cells 26 [A, .lst .any 3 (txL o.txt), C, D] :: H⟩ := by
 subst hc
 refine xv9 (fun σ => σ = ⟨215, [(1, .v (.int .u8 n)), (2, .v (.int .i64 b)), (3, .loc 0 0), (6, .loc 1 0)], .cells 26 [A, .lst .any 3 (txL o.txt), C, D] :: H⟩) ?_ (by rintro _ rfl; exact h)
 have hk16 := tmod16 hk
 have hk1 : k < 16 := by omega
 have wk := wu8 (n := (k : Nat)) (by omega) (by omega)
 by_cases ht0 : o.txt = []
 ·have ht1 : o.txt.length = 0 := by simp [ht0]
  refine W_cF [1, 2, 3, 6, 108] (by simp [ht1]; rfl) rfl ?_
  refine ym9 [1, 2, 3, 6] ?_
  refine yk9 ?_
  exact rfl
 ·obtain ⟨n16, _, e16, w16, i16⟩ := spoN n hn
  obtain ⟨q2, t, htg, hq2l, hq2i, ht1, ht1n, ht1i, htmm, wq2, _, htg0⟩ := spoX o.txt ht0 ho.t n16
  have htgg : (txL o.txt)[q2]? = some (txA t) := by rw [txL_get, htg]; rfl
  have hne2 : k < 8 ∨ 12 ≤ k := by
   rcases hne with h | h | h
   ·exact .inl h
   ·exact .inr h
   ·exact absurd h ht0
  have a8 : ¬ k = 8 := by omega
  have a9 : ¬ k = 9 := by omega
  have a10 : ¬ k = 10 := by omega
  have a11 : ¬ k = 11 := by omega
  have b8 : ((k : Int) == 8) = false := beqF a8
  have b9 : ((k : Int) == 9) = false := beqF a9
  have b10 : ((k : Int) == 10) = false := beqF a10
  have b11 : ((k : Int) == 11) = false := beqF a11
  refine W_cT [1, 2, 3, 6, 108] (by simp [ht1]; rfl) rfl ?_
  refine W_dvK [1, 2, 3, 6, 8] mx (by decide +kernel) (by simp [e16, w16, i16, htmm, wq2, hq2l, hq2i, htg0, ht1, ht1n, ht1i, htgg]; rfl) ?_
  refine yt9 [1, 2, 3, 6, 8, 120] (by simp [hk16, wk]; rfl) ?_
  refine yp9 ?_
  refine W_cF [1, 2, 3, 6, 8, 120, 121] (by simp [b8]; rfl) rfl ?_
  refine W_cF [1, 2, 3, 6, 8, 120, 132] (by simp [b9]; rfl) rfl ?_
  refine W_cF [1, 2, 3, 6, 8, 120, 143] (by simp [b10]; rfl) rfl ?_
  refine W_cF [1, 2, 3, 6, 8, 120, 148] (by simp [b11]; rfl) rfl ?_
  refine ym9 [1, 2, 3, 6] ?_
  refine yk9 ?_
  exact rfl
theorem tail3 {o : OMod} (ho : OSn o) {n k : Nat} (hn : n < 256) (hk : n % 16 = k) (hne : k < 12 ∨ o.rld = []) {b : Int} {A C D : AV} {H : List AObj} {Q : Exit → St → Prop} {y c2 : Code} (hc : sq1 (sq2 (sq2 (sq2 (sq2 (sq2 (Try.f13.body.getD .skip)))))) = c2)
  (h : Wt true 0 Try.prog y Q ⟨215, [(3, .loc 0 0), (6, .loc 1 0)], .cells 26 [A, C, .lst .any 5 (rdL o.rld), D] :: H⟩) :
  Wt true 0 Try.prog (.seq c2 y) Q ⟨215, [(1, .v (.int .u8 n)), (2, .v (.int .i64 b)), (3, .loc 0 0), (6, .loc 1 0)], .cells 26 [A, C, .lst .any 5 (rdL o.rld), D] :: H⟩ := by
 subst hc
 refine xv9 (fun σ => σ = ⟨215, [(3, .loc 0 0), (6, .loc 1 0)], .cells 26 [A, C, .lst .any 5 (rdL o.rld), D] :: H⟩) ?_ (by rintro _ rfl; exact h)
 have hk16 := tmod16 hk
 have hk1 : k < 16 := by omega
 have wk := wu8 (n := (k : Nat)) (by omega) (by omega)
 by_cases hr0 : o.rld = []
 ·have hr1 : o.rld.length = 0 := by simp [hr0]
  refine W_cF [1, 2, 3, 6, 157] (by simp [hr1]; rfl) rfl ?_
  refine ym9 [3, 6] ?_
  refine yk9 ?_
  exact rfl
 ·obtain ⟨n16, _, e16, w16, i16⟩ := spoN n hn
  obtain ⟨q2, t, htg, hq2l, hq2i, ht1, ht1n, ht1i, htmm, wq2, _, htg0⟩ := spoX o.rld hr0 ho.r n16
  have htgg : (rdL o.rld)[q2]? = some (rdA t) := by rw [rdL_get, htg]; rfl
  have hne2 : k < 12 := by
   rcases hne with h | h
   ·exact h
   ·exact absurd h hr0
  have a8 : ¬ k = 12 := by omega
  have a9 : ¬ k = 13 := by omega
  have a10 : ¬ k = 14 := by omega
  have a11 : ¬ k = 15 := by omega
  have b8 : ((k : Int) == 12) = false := beqF a8
  have b9 : ((k : Int) == 13) = false := beqF a9
  have b10 : ((k : Int) == 14) = false := beqF a10
  have b11 : ((k : Int) == 15) = false := beqF a11
  refine W_cT [1, 2, 3, 6, 157] (by simp [ht1]; rfl) rfl ?_
  refine W_dvK [1, 2, 3, 6, 9] mx (by decide +kernel) (by simp [e16, w16, i16, htmm, wq2, hq2l, hq2i, htg0, ht1, ht1n, ht1i, htgg]; rfl) ?_
  refine yt9 [2, 3, 6, 9, 169] (by simp [hk16, wk]; rfl) ?_
  refine yp9 ?_
  refine W_cF [2, 3, 6, 9, 169, 170] (by simp [b8]; rfl) rfl ?_
  refine W_cF [2, 3, 6, 9, 169, 181] (by simp [b9]; rfl) rfl ?_
  refine W_cF [2, 3, 6, 9, 169, 192] (by simp [b10]; rfl) rfl ?_
  refine W_cF [2, 3, 6, 9, 169, 203] (by simp [b11]; rfl) rfl ?_
  refine ym9 [3, 6] ?_
  refine yk9 ?_
  exact rfl
theorem retE {l : List Esd} {T : List Txt} {R : List Rld} {N : List UInt8} {n0 cap k : Nat} {cs : List AV} (hn : l.length = n0) : retU Try.prog [.cell 6 26] (obA ⟨l, T, R, N⟩) .ret ⟨215, [(6, .loc 1 0)], [.cells 26 cs, .cells 26 [.arr 2 0 n0 cap, .lst .any 3 (txL T), .lst .any 5 (rdL R), .v (.string ⟨N.toArray⟩)], .cells 78 (flC esC l ++ List.replicate k .any)]⟩ := by
 subst hn
 obtain ⟨fo, h', hf, hfo⟩ := frz_flG (F := esC) (sz := 5) (ty := 78) (id := 2) (k := k) (cap := cap) (l := l) (h := [.cells 26 cs, .cells 26 [.arr 2 0 l.length cap, .lst .any 3 (txL T), .lst .any 5 (rdL R), .v (.string ⟨N.toArray⟩)], .cells 78 (flC esC l ++ List.replicate k .any)]) rfl (by decide +kernel) (by omega) yg7 (by simp) (by simp) (by simp)
 refine retU_pl (r0 := .agg [.lst fo 5 (l.map fun x => .agg (esC x)), .lst .any 3 (txL T), .lst .any 5 (rdL R), .v (.string ⟨N.toArray⟩)]) ⟨.inr rfl, _, h', by simp; rfl, ?_, by simp [AV.rf, AV.rfL]⟩ (by rcases hfo with rfl | rfl <;> rfl)
 simp [hf]
theorem retT {E : List Esd} {l : List Txt} {R : List Rld} {N : List UInt8} {n0 cap k : Nat} {cs : List AV} {hh : List AObj} (hn : l.length = n0) : retU Try.prog [.cell 6 26] (obA ⟨E, l, R, N⟩) .ret ⟨215, [(6, .loc 1 0)], .cells 26 cs :: .cells 26 [.lst .any 5 (esL E), .arr 2 0 n0 cap, .lst .any 5 (rdL R), .v (.string ⟨N.toArray⟩)] :: .cells 73 (flC txC l ++ List.replicate k .any) :: hh⟩ := by
 subst hn
 obtain ⟨fo, h', hf, hfo⟩ := frz_flG (F := txC) (sz := 3) (ty := 73) (id := 2) (k := k) (cap := cap) (l := l) (h := .cells 26 cs :: .cells 26 [.lst .any 5 (esL E), .arr 2 0 l.length cap, .lst .any 5 (rdL R), .v (.string ⟨N.toArray⟩)] :: .cells 73 (flC txC l ++ List.replicate k .any) :: hh) rfl (by decide +kernel) (by omega) txC_len (by simp) (by simp) (by simp)
 refine retU_pl (r0 := .agg [.lst .any 5 (esL E), .lst fo 3 (l.map fun x => .agg (txC x)), .lst .any 5 (rdL R), .v (.string ⟨N.toArray⟩)]) ⟨.inr rfl, _, h', by simp; rfl, ?_, by simp [AV.rf, AV.rfL]⟩ (by rcases hfo with rfl | rfl <;> rfl)
 simp [hf]
theorem retTN {E : List Esd} {l : List Txt} {R : List Rld} {N : List UInt8} {n0 cap k q : Nat} {t : Txt} {cs : List AV} (hn : l.length = n0) : retU Try.prog [.cell 6 26] (obA ⟨E, l.set q ⟨t.id, t.addr, []⟩, R, N⟩) .ret ⟨215, [(6, .loc 1 0)], [.cells 26 cs, .cells 26 [.lst .any 5 (esL E), .arr 2 0 n0 cap, .lst .any 5 (rdL R), .v (.string ⟨N.toArray⟩)], .cells 73 (flC txN ((l.map fun t => (t, false)).set q (⟨t.id, t.addr, []⟩, true)) ++ List.replicate k .any)]⟩ := by
 have hl2 : ((l.map fun t => (t, false)).set q ((⟨t.id, t.addr, []⟩ : Txt), true)).map (·.1) = l.set q ⟨t.id, t.addr, []⟩ := by rw [List.map_set, List.map_map]; simp [Function.comp_def]
 have hl3 : ∀ p ∈ (l.map fun t => (t, false)).set q ((⟨t.id, t.addr, []⟩ : Txt), true), p.2 = true → p.1.data = [] := by
  intro p hp h2
  rcases List.mem_or_eq_of_mem_set hp with hp | rfl
  ·obtain ⟨x, _, rfl⟩ := List.mem_map.1 hp
   cases h2
  ·rfl
 have hn2 : ((l.map fun t => (t, false)).set q ((⟨t.id, t.addr, []⟩ : Txt), true)).length = n0 := by simpa using hn
 generalize (l.map fun t => (t, false)).set q ((⟨t.id, t.addr, []⟩ : Txt), true) = L at hl2 hl3 hn2 ⊢
 generalize l.set q ⟨t.id, t.addr, []⟩ = l2 at hl2 ⊢
 subst hn2
 obtain ⟨fo, h', hf, hfo⟩ := frz_flW (F := txN) (G := txC) (g := (·.1)) (sz := 3) (ty := 73) (id := 2) (k := k) (cap := cap) (l := L) (h := [.cells 26 cs, .cells 26 [.lst .any 5 (esL E), .arr 2 0 L.length cap, .lst .any 5 (rdL R), .v (.string ⟨N.toArray⟩)], .cells 73 (flC txN L ++ List.replicate k .any)]) rfl (by decide +kernel) (by omega) txN_len txC_len (weakL_flN _ hl3) (by simp) (by simp)
 rw [hl2] at hf
 refine retU_pl (r0 := .agg [.lst .any 5 (esL E), .lst fo 3 (l2.map fun x => .agg (txC x)), .lst .any 5 (rdL R), .v (.string ⟨N.toArray⟩)]) ⟨.inr rfl, _, h', by simp; rfl, ?_, by simp [AV.rf, AV.rfL]⟩ (by rcases hfo with rfl | rfl <;> rfl)
 simp [hf]
theorem retD {E : List Esd} {T : List Txt} {l : List Rld} {N : List UInt8} {n0 cap k : Nat} {cs : List AV} (hn : l.length = n0) : retU Try.prog [.cell 6 26] (obA ⟨E, T, l, N⟩) .ret ⟨215, [(6, .loc 1 0)], [.cells 26 cs, .cells 26 [.lst .any 5 (esL E), .lst .any 3 (txL T), .arr 2 0 n0 cap, .v (.string ⟨N.toArray⟩)], .cells 80 (flC rdC l ++ List.replicate k .any)]⟩ := by
 subst hn
 obtain ⟨fo, h', hf, hfo⟩ := frz_flG (F := rdC) (sz := 5) (ty := 80) (id := 2) (k := k) (cap := cap) (l := l) (h := [.cells 26 cs, .cells 26 [.lst .any 5 (esL E), .lst .any 3 (txL T), .arr 2 0 l.length cap, .v (.string ⟨N.toArray⟩)], .cells 80 (flC rdC l ++ List.replicate k .any)]) rfl (by decide +kernel) (by omega) rdC_len (by simp) (by simp) (by simp)
 refine retU_pl (r0 := .agg [.lst .any 5 (esL E), .lst .any 3 (txL T), .lst fo 5 (l.map fun x => .agg (rdC x)), .v (.string ⟨N.toArray⟩)]) ⟨.inr rfl, _, h', by simp; rfl, ?_, by simp [AV.rf, AV.rfL]⟩ (by rcases hfo with rfl | rfl <;> rfl)
 simp [hf]
theorem spoHE {o : OMod} (ho : OSn o) {n : Nat} (hn : n < 256) (b : Int) {r : OMod} {n16 q : Nat} {c2 : Code} (hc : sq2 (sq2 (sq2 (Try.f13.body.getD .skip))) = c2) (e16 : Int.tdiv (n : Int) 16 = (n16 : Nat)) (w16 : IntKind.u8.wrap (n16 : Nat) = (n16 : Nat)) (i16 : IntKind.i64.wrap (n16 : Nat) = (n16 : Nat)) (hrm : Int.tmod (n16 : Int) (o.esd.length : Nat) = (q : Nat)) (wq : IntKind.i64.wrap (q : Nat) = (q : Nat)) (hql : q < o.esd.length)
  (h : ∀ cap, o.esd.length ≤ cap → cap ≤ maxLen → Wt true 0 Try.prog c2 (retU Try.prog [.cell 6 26] (obA r)) ⟨215, [(1, .v (.int .u8 n)), (2, .v (.int .i64 b)), (3, .loc 0 0), (6, .loc 1 0), (7, .loc 2 (q * 5))], [.cells 26 [.arr 2 0 o.esd.length cap, .lst .any 3 (txL o.txt), .lst .any 5 (rdL o.rld), .v (.string ⟨o.entry.toArray⟩)], .cells 26 [.lst .nil 5 [], .lst .nil 3 [], .lst .nil 5 [], .v (.string ⟨#[]⟩)], .cells 78 (flC esC o.esd ++ List.replicate ((cap - o.esd.length) * 5) .any)]⟩) : Sound Try.prog 13 [obA o, .v (.int .u8 n), .v (.int .i64 b)] (obA r) := by
 subst hc
 have hqi : (q : Int) < o.esd.length := by omega
 have hl0n : ¬ o.esd.length = 0 := by omega
 have hl0i : ¬ (o.esd.length : Int) = 0 := by omega
 refine ym8 Try.func13 rfl (by decide +kernel) (by simp [Try.f13, strB]) (by simp [AV.rfL, AV.rf, strB]) (by simp [AV.tlL, AV.tl, strB]) (rs := [.cell 6 26]) rfl ?_
 rw [show Try.f13.ntmps = 215 from rfl]
 refine yt9 [1, 2, 3, 6] (by simp [strB]; rfl) ?_
 refine W_rK [1, 2, 3, 6] ?_
 refine yq9 1 (by simp; rfl) rfl ?_
 refine yn9 (f := 40) (args := [obA o]) (by simp) (by simp [strB]) (sp_thawE ho fun cap hc1 hc2 => ?_)
 refine ⟨_, by simp; rfl, ?_⟩
 refine yw9 (by simp [yd9, strB]; rfl) ?_
 refine W_dvK [1, 2, 3, 6, 7] mx (by decide +kernel) (by simp [e16, w16, i16, hrm, wq, hql, hqi, hl0n, hl0i, strB]; rfl) ?_
 exact h cap hc1 hc2
theorem spoHT {o : OMod} (ho : OSn o) (h0 : o.txt ≠ []) {n : Nat} (hn : n < 256) (b : Int) {r : OMod}  {c2 : Code} (hc : sq2 (sq2 (sq2 (Try.f13.body.getD .skip))) = c2)
  (h : ∀ cap e, o.txt.length ≤ cap → cap ≤ maxLen → Wt true 0 Try.prog c2 (retU Try.prog [.cell 6 26] (obA r)) ⟨215, [(1, .v (.int .u8 n)), (2, .v (.int .i64 b)), (3, .loc 0 0), (6, .loc 1 0), (7, .ro (esA e))], [.cells 26 [.lst .any 5 (esL o.esd), .arr 2 0 o.txt.length cap, .lst .any 5 (rdL o.rld), .v (.string ⟨o.entry.toArray⟩)], .cells 26 [.lst .nil 5 [], .lst .nil 3 [], .lst .nil 5 [], .v (.string ⟨#[]⟩)], .cells 73 (flC txC o.txt ++ List.replicate ((cap - o.txt.length) * 3) .any)]⟩) : Sound Try.prog 13 [obA o, .v (.int .u8 n), .v (.int .i64 b)] (obA r) := by
 subst hc
 obtain ⟨n16, _, e16, w16, i16⟩ := spoN n hn
 obtain ⟨q, e, heg, hql, hqi, hl0, hl0n, hl0i, hrm, wq, _, heg0⟩ := spoX o.esd ho.e0 ho.e n16
 have hegg : (esL o.esd)[q]? = some (esA e) := by rw [esL_get, heg]; rfl
 refine ym8 Try.func13 rfl (by decide +kernel) (by simp [Try.f13, strB]) (by simp [AV.rfL, AV.rf, strB]) (by simp [AV.tlL, AV.tl, strB]) (rs := [.cell 6 26]) rfl ?_
 rw [show Try.f13.ntmps = 215 from rfl]
 refine yt9 [1, 2, 3, 6] (by simp [strB]; rfl) ?_
 refine W_rK [1, 2, 3, 6] ?_
 refine yq9 1 (by simp; rfl) rfl ?_
 refine yn9 (f := 40) (args := [obA o]) (by simp) (by simp [strB]) (sp_thawT ho h0 fun cap hc1 hc2 => ?_)
 refine ⟨_, by simp; rfl, ?_⟩
 refine yw9 (by simp [yd9, strB]; rfl) ?_
 refine W_dvK [1, 2, 3, 6, 7] mx (by decide +kernel) (by simp [e16, w16, i16, hrm, wq, hql, hqi, heg0, hegg, hl0n, hl0i, strB]; rfl) ?_
 exact h cap e hc1 hc2
theorem spoHD {o : OMod} (ho : OSn o) (h0 : o.rld ≠ []) {n : Nat} (hn : n < 256) (b : Int) {r : OMod}  {c2 : Code} (hc : sq2 (sq2 (sq2 (Try.f13.body.getD .skip))) = c2)
  (h : ∀ cap e, o.rld.length ≤ cap → cap ≤ maxLen → Wt true 0 Try.prog c2 (retU Try.prog [.cell 6 26] (obA r)) ⟨215, [(1, .v (.int .u8 n)), (2, .v (.int .i64 b)), (3, .loc 0 0), (6, .loc 1 0), (7, .ro (esA e))], [.cells 26 [.lst .any 5 (esL o.esd), .lst .any 3 (txL o.txt), .arr 2 0 o.rld.length cap, .v (.string ⟨o.entry.toArray⟩)], .cells 26 [.lst .nil 5 [], .lst .nil 3 [], .lst .nil 5 [], .v (.string ⟨#[]⟩)], .cells 80 (flC rdC o.rld ++ List.replicate ((cap - o.rld.length) * 5) .any)]⟩) : Sound Try.prog 13 [obA o, .v (.int .u8 n), .v (.int .i64 b)] (obA r) := by
 subst hc
 obtain ⟨n16, _, e16, w16, i16⟩ := spoN n hn
 obtain ⟨q, e, heg, hql, hqi, hl0, hl0n, hl0i, hrm, wq, _, heg0⟩ := spoX o.esd ho.e0 ho.e n16
 have hegg : (esL o.esd)[q]? = some (esA e) := by rw [esL_get, heg]; rfl
 refine ym8 Try.func13 rfl (by decide +kernel) (by simp [Try.f13, strB]) (by simp [AV.rfL, AV.rf, strB]) (by simp [AV.tlL, AV.tl, strB]) (rs := [.cell 6 26]) rfl ?_
 rw [show Try.f13.ntmps = 215 from rfl]
 refine yt9 [1, 2, 3, 6] (by simp [strB]; rfl) ?_
 refine W_rK [1, 2, 3, 6] ?_
 refine yq9 1 (by simp; rfl) rfl ?_
 refine yn9 (f := 40) (args := [obA o]) (by simp) (by simp [strB]) (sp_thawD ho h0 fun cap hc1 hc2 => ?_)
 refine ⟨_, by simp; rfl, ?_⟩
 refine yw9 (by simp [yd9, strB]; rfl) ?_
 refine W_dvK [1, 2, 3, 6, 7] mx (by decide +kernel) (by simp [e16, w16, i16, hrm, wq, hql, hqi, heg0, hegg, hl0n, hl0i, strB]; rfl) ?_
 exact h cap e hc1 hc2
theorem yt8 {α : Type} {F : α → List AV} {sz : Nat} (hF : ∀ x, (F x).length = sz) {l : List α} {q : Nat} {r : α} (h : l[q]? = some r) (r' : α) (j : Nat) (hj : j < sz) {y z : AV} (hy : (F r)[j]? = some y) (hz : yd9 (F r) j [z] = F r') (cap : Nat) :
  (flC F l ++ List.replicate ((cap - l.length) * sz) AV.any)[q * sz + j]? = some y ∧ yd9 (flC F l ++ List.replicate ((cap - l.length) * sz) AV.any) (q * sz + j) [z] = flC F (l.set q r') ++ List.replicate ((cap - l.length) * sz) AV.any ∧ (flC F l).length = l.length * sz ∧ q * sz + j + 1 ≤ l.length * sz + (cap - l.length) * sz := by
 refine ⟨(flC_get hF h _ j hj).trans hy, flC_set (k := q) hF h _ j _ hz (show j + 1 ≤ sz from hj), flC_length hF l, ?_⟩
 have hq := (List.getElem?_eq_some_iff.1 h).1
 have : (q + 1) * sz ≤ l.length * sz := Nat.mul_le_mul_right _ hq
 rw [Nat.add_mul] at this
 omega
end Go.AM
namespace Go.AM
open Go.RowKit Go.Proofs
set_option linter.unusedSimpArgs false
set_option linter.unusedVariables false
set_option maxHeartbeats 8000000
theorem spo0 (o : OMod) (ho : OSn o) (n : Nat) (hn : n < 256) (b : Int) (hk : n % 16 = 0) : ∃ o', OSm o' ∧ Sound Try.prog 13 [obA o, .v (.int .u8 n), .v (.int .i64 b)] (obA o') := by
 obtain ⟨n16, _, e16, w16, i16⟩ := spoN n hn
 have hk16 := tmod16 hk
 have wk := wu8 (n := 0) (by omega) (by omega)
 obtain ⟨q, e, heg, hql, hqi, hl0, hl0n, hl0i, hrm, wq, _, heg0⟩ := spoX o.esd ho.e0 ho.e n16
 have hei := ho.i.e e (List.mem_of_getElem? heg)
 refine ⟨⟨o.esd.set q ⟨e.name, IntKind.i64.wrap (e.kind + b), e.id, e.addr, e.len⟩, o.txt, o.rld, o.entry⟩, OSm_e ho.sm _ _ ⟨hei.1, hei.2⟩, spoHE ho hn b rfl e16 w16 i16 hrm wq hql fun cap hc1 hc2 => ?_⟩
 obtain ⟨hgq, hgs, hlc, hcd⟩ := yt8 yg7 heg ⟨e.name, IntKind.i64.wrap (e.kind + b), e.id, e.addr, e.len⟩ 1 (by omega) rfl rfl cap
 refine yc9 ?_
 refine yt9 [1, 2, 3, 6, 7, 23] (by simp [hk16, wk]; rfl) ?_
 refine yp9 ?_
 refine W_cT [1, 2, 3, 6, 7, 23, 24] (by simp; rfl) rfl ?_
 refine zd9 [1, 2, 3, 6] (by simp [hgq, hgs, hlc, hcd]; rfl) ?_
 refine tail2 ho hn hk (.inl (by decide)) rfl ?_
 refine tail3 ho hn hk (.inl (by decide)) rfl ?_
 refine yt9 [6] (by simp [yd9, strB]; rfl) ?_
 refine zq9 ?_
 repeat (first | refine yg9 ?_ | refine yh9 ?_)
 exact retE (by simp)
theorem spo1 (o : OMod) (ho : OSn o) (n : Nat) (hn : n < 256) (b : Int) (hk : n % 16 = 1) : ∃ o', OSm o' ∧ Sound Try.prog 13 [obA o, .v (.int .u8 n), .v (.int .i64 b)] (obA o') := by
 obtain ⟨n16, _, e16, w16, i16⟩ := spoN n hn
 have hk16 := tmod16 hk
 have wk := wu8 (n := 1) (by omega) (by omega)
 obtain ⟨q, e, heg, hql, hqi, hl0, hl0n, hl0i, hrm, wq, _, heg0⟩ := spoX o.esd ho.e0 ho.e n16
 have hei := ho.i.e e (List.mem_of_getElem? heg)
 refine ⟨⟨o.esd.set q ⟨e.name, e.kind, IntKind.i64.wrap (e.id + b), e.addr, e.len⟩, o.txt, o.rld, o.entry⟩, OSm_e ho.sm _ _ ⟨hei.1, hei.2⟩, spoHE ho hn b rfl e16 w16 i16 hrm wq hql fun cap hc1 hc2 => ?_⟩
 obtain ⟨hgq, hgs, hlc, hcd⟩ := yt8 yg7 heg ⟨e.name, e.kind, IntKind.i64.wrap (e.id + b), e.addr, e.len⟩ 2 (by omega) rfl rfl cap
 refine yc9 ?_
 refine yt9 [1, 2, 3, 6, 7, 23] (by simp [hk16, wk]; rfl) ?_
 refine yp9 ?_
 refine W_cF [1, 2, 3, 6, 7, 23, 24] (by simp; rfl) rfl ?_
 refine W_cT [1, 2, 3, 6, 7, 23, 35] (by simp; rfl) rfl ?_
 refine zd9 [1, 2, 3, 6] (by simp [hgq, hgs, hlc, hcd]; rfl) ?_
 refine tail2 ho hn hk (.inl (by decide)) rfl ?_
 refine tail3 ho hn hk (.inl (by decide)) rfl ?_
 refine yt9 [6] (by simp [yd9, strB]; rfl) ?_
 refine zq9 ?_
 repeat (first | refine yg9 ?_ | refine yh9 ?_)
 exact retE (by simp)
theorem spo2 (o : OMod) (ho : OSn o) (n : Nat) (hn : n < 256) (b : Int) (hk : n % 16 = 2) : ∃ o', OSm o' ∧ Sound Try.prog 13 [obA o, .v (.int .u8 n), .v (.int .i64 b)] (obA o') := by
 obtain ⟨n16, _, e16, w16, i16⟩ := spoN n hn
 have hk16 := tmod16 hk
 have wk := wu8 (n := 2) (by omega) (by omega)
 obtain ⟨q, e, heg, hql, hqi, hl0, hl0n, hl0i, hrm, wq, _, heg0⟩ := spoX o.esd ho.e0 ho.e n16
 have hei := ho.i.e e (List.mem_of_getElem? heg)
 refine ⟨⟨o.esd.set q ⟨e.name, e.kind, e.id, IntKind.i64.wrap (e.addr + b), e.len⟩, o.txt, o.rld, o.entry⟩, OSm_e ho.sm _ _ ⟨hei.1, i64r_wrap _⟩, spoHE ho hn b rfl e16 w16 i16 hrm wq hql fun cap hc1 hc2 => ?_⟩
 obtain ⟨hgq, hgs, hlc, hcd⟩ := yt8 yg7 heg ⟨e.name, e.kind, e.id, IntKind.i64.wrap (e.addr + b), e.len⟩ 3 (by omega) rfl rfl cap
 refine yc9 ?_
 refine yt9 [1, 2, 3, 6, 7, 23] (by simp [hk16, wk]; rfl) ?_
 refine yp9 ?_
 refine W_cF [1, 2, 3, 6, 7, 23, 24] (by simp; rfl) rfl ?_
 refine W_cF [1, 2, 3, 6, 7, 23, 35] (by simp; rfl) rfl ?_
 refine W_cT [1, 2, 3, 6, 7, 23, 46] (by simp; rfl) rfl ?_
 refine zd9 [1, 2, 3, 6] (by simp [hgq, hgs, hlc, hcd]; rfl) ?_
 refine tail2 ho hn hk (.inl (by decide)) rfl ?_
 refine tail3 ho hn hk (.inl (by decide)) rfl ?_
 refine yt9 [6] (by simp [yd9, strB]; rfl) ?_
 refine zq9 ?_
 repeat (first | refine yg9 ?_ | refine yh9 ?_)
 exact retE (by simp)
theorem spo3 (o : OMod) (ho : OSn o) (n : Nat) (hn : n < 256) (b : Int) (hk : n % 16 = 3) : ∃ o', OSm o' ∧ Sound Try.prog 13 [obA o, .v (.int .u8 n), .v (.int .i64 b)] (obA o') := by
 obtain ⟨n16, _, e16, w16, i16⟩ := spoN n hn
 have hk16 := tmod16 hk
 have wk := wu8 (n := 3) (by omega) (by omega)
 obtain ⟨q, e, heg, hql, hqi, hl0, hl0n, hl0i, hrm, wq, _, heg0⟩ := spoX o.esd ho.e0 ho.e n16
 have hei := ho.i.e e (List.mem_of_getElem? heg)
 refine ⟨⟨o.esd.set q ⟨e.name, e.kind, e.id, e.addr, IntKind.i64.wrap (e.len + b)⟩, o.txt, o.rld, o.entry⟩, OSm_e ho.sm _ _ ⟨hei.1, hei.2⟩, spoHE ho hn b rfl e16 w16 i16 hrm wq hql fun cap hc1 hc2 => ?_⟩
 obtain ⟨hgq, hgs, hlc, hcd⟩ := yt8 yg7 heg ⟨e.name, e.kind, e.id, e.addr, IntKind.i64.wrap (e.len + b)⟩ 4 (by omega) rfl rfl cap
 refine yc9 ?_
 refine yt9 [1, 2, 3, 6, 7, 23] (by simp [hk16, wk]; rfl) ?_
 refine yp9 ?_
 refine W_cF [1, 2, 3, 6, 7, 23, 24] (by simp; rfl) rfl ?_
 refine W_cF [1, 2, 3, 6, 7, 23, 35] (by simp; rfl) rfl ?_
 refine W_cF [1, 2, 3, 6, 7, 23, 46] (by simp; rfl) rfl ?_
 refine W_cT [1, 2, 3, 6, 7, 23, 57] (by simp; rfl) rfl ?_
 refine zd9 [1, 2, 3, 6] (by simp [hgq, hgs, hlc, hcd]; rfl) ?_
 refine tail2 ho hn hk (.inl (by decide)) rfl ?_
 refine tail3 ho hn hk (.inl (by decide)) rfl ?_
 refine yt9 [6] (by simp [yd9, strB]; rfl) ?_
 refine zq9 ?_
 repeat (first | refine yg9 ?_ | refine yh9 ?_)
 exact retE (by simp)
theorem spoE (o : OMod) (ho : OSn o) (n : Nat) (hn : n < 256) (b : Int) (k : Nat) (hk : n % 16 = k) (h2 : k < 8 ∨ 12 ≤ k ∨ o.txt = []) (h3 : k < 12 ∨ o.rld = []) (h8 : 8 ≤ k) : ∃ o', OSm o' ∧ Sound Try.prog 13 [obA o, .v (.int .u8 n), .v (.int .i64 b)] (obA o') := by
 obtain ⟨n16, _, e16, w16, i16⟩ := spoN n hn
 have hk16 := tmod16 hk
 have hk1 : k < 16 := by omega
 have wk := wu8 (n := (k : Nat)) (by omega) (by omega)
 have b0 : ((k : Int) == 0) = false := beqF (j := 0) (by omega)
 have b1 : ((k : Int) == 1) = false := beqF (j := 1) (by omega)
 have b2 : ((k : Int) == 2) = false := beqF (j := 2) (by omega)
 have b3 : ((k : Int) == 3) = false := beqF (j := 3) (by omega)
 have b4 : ((k : Int) == 4) = false := beqF (j := 4) (by omega)
 have b5 : ((k : Int) == 5) = false := beqF (j := 5) (by omega)
 have b6 : ((k : Int) == 6) = false := beqF (j := 6) (by omega)
 have b7 : ((k : Int) == 7) = false := beqF (j := 7) (by omega)
 obtain ⟨q, e, heg, hql, hqi, hl0, hl0n, hl0i, hrm, wq, _, heg0⟩ := spoX o.esd ho.e0 ho.e n16
 refine ⟨o, ho.sm, spoHE ho hn b rfl e16 w16 i16 hrm wq hql fun cap hc1 hc2 => ?_⟩
 refine yc9 ?_
 refine yt9 [1, 2, 3, 6, 7, 23] (by simp [hk16, wk]; rfl) ?_
 refine yp9 ?_
 refine W_cF [1, 2, 3, 6, 7, 23, 24] (by simp [b0]; rfl) rfl ?_
 refine W_cF [1, 2, 3, 6, 7, 23, 35] (by simp [b1]; rfl) rfl ?_
 refine W_cF [1, 2, 3, 6, 7, 23, 46] (by simp [b2]; rfl) rfl ?_
 refine W_cF [1, 2, 3, 6, 7, 23, 57] (by simp [b3]; rfl) rfl ?_
 refine W_cF [1, 2, 3, 6, 7, 23, 68] (by simp [b4]; rfl) rfl ?_
 refine W_cF [1, 2, 3, 6, 7, 23, 82] (by simp [b5]; rfl) rfl ?_
 refine W_cF [1, 2, 3, 6, 7, 23, 92] (by simp [b6]; rfl) rfl ?_
 refine W_cF [1, 2, 3, 6, 7, 23, 98] (by simp [b7]; rfl) rfl ?_
 refine ym9 [1, 2, 3, 6] ?_
 refine yk9 ?_
 refine tail2 ho hn hk h2 rfl ?_
 refine tail3 ho hn hk h3 rfl ?_
 refine yt9 [6] (by simp [yd9, strB]; rfl) ?_
 refine zq9 ?_
 repeat (first | refine yg9 ?_ | refine yh9 ?_)
 exact retE rfl
end Go.AM
namespace Go.AM
open Go.RowKit Go.Proofs
set_option linter.unusedSimpArgs false
set_option linter.unusedVariables false
set_option maxHeartbeats 8000000
theorem spo4 (o : OMod) (ho : OSn o) (n : Nat) (hn : n < 256) (b : Int) (hk : n % 16 = 4) : ∃ o', OSm o' ∧ Sound Try.prog 13 [obA o, .v (.int .u8 n), .v (.int .i64 b)] (obA o') := by
 obtain ⟨n16, _, e16, w16, i16⟩ := spoN n hn
 have hk16 := tmod16 hk
 have wk := wu8 (n := 4) (by omega) (by omega)
 obtain ⟨q, e, heg, hql, hqi, hl0, hl0n, hl0i, hrm, wq, _, heg0⟩ := spoX o.esd ho.e0 ho.e n16
 have hei := ho.i.e e (List.mem_of_getElem? heg)
 refine ⟨⟨o.esd.set q ⟨(e.name ++ [UInt8.ofNat (IntKind.u8.wrap b).toNat]), e.kind, e.id, e.addr, e.len⟩, o.txt, o.rld, o.entry⟩, OSm_e ho.sm _ _ ⟨by have := ho.n e (List.mem_of_getElem? heg); simp; omega, hei.2⟩, spoHE ho hn b rfl e16 w16 i16 hrm wq hql fun cap hc1 hc2 => ?_⟩
 obtain ⟨hgq, hgs, hlc, hcd⟩ := yt8 yg7 heg ⟨(e.name ++ [UInt8.ofNat (IntKind.u8.wrap b).toNat]), e.kind, e.id, e.addr, e.len⟩ 0 (by omega) rfl rfl cap
 simp only [Nat.add_zero, strB] at hgq hgs hcd
 refine yc9 ?_
 refine yt9 [1, 2, 3, 6, 7, 23] (by simp [hk16, wk]; rfl) ?_
 refine yp9 ?_
 refine W_cF [1, 2, 3, 6, 7, 23, 24] (by simp; rfl) rfl ?_
 refine W_cF [1, 2, 3, 6, 7, 23, 35] (by simp; rfl) rfl ?_
 refine W_cF [1, 2, 3, 6, 7, 23, 46] (by simp; rfl) rfl ?_
 refine W_cF [1, 2, 3, 6, 7, 23, 57] (by simp; rfl) rfl ?_
 refine W_cT [1, 2, 3, 6, 7, 23, 68] (by simp; rfl) rfl ?_
 refine vr9 [1, 2, 3, 6] (W_drawD mx (by decide +kernel) ?_)
 refine yr9 9 (by simp [hgq, hlc, hcd, bytesA1]; rfl) rfl ?_
 refine runD_addS (a := e.name) (b := [UInt8.ofNat (IntKind.u8.wrap b).toNat]) (by simp) rfl rfl rfl (by have := ho.n e (List.mem_of_getElem? heg); simp; omega) (by simp; rfl) ?_
 refine zf9 (by simp [hgs, hlc, hcd, strB]; rfl) ?_
 refine tail2 ho hn hk (.inl (by decide)) rfl ?_
 refine tail3 ho hn hk (.inl (by decide)) rfl ?_
 refine yt9 [6] (by simp [yd9, strB]; rfl) ?_
 refine zq9 ?_
 repeat (first | refine yg9 ?_ | refine yh9 ?_)
 exact retE (by simp)
theorem spo5 (o : OMod) (ho : OSn o) (n : Nat) (hn : n < 256) (b : Int) (hk : n % 16 = 5) : ∃ o', OSm o' ∧ Sound Try.prog 13 [obA o, .v (.int .u8 n), .v (.int .i64 b)] (obA o') := by
 obtain ⟨n16, _, e16, w16, i16⟩ := spoN n hn
 have hk16 := tmod16 hk
 have wk := wu8 (n := 5) (by omega) (by omega)
 obtain ⟨q, e, heg, hql, hqi, hl0, hl0n, hl0i, hrm, wq, _, heg0⟩ := spoX o.esd ho.e0 ho.e n16
 have hei := ho.i.e e (List.mem_of_getElem? heg)
 obtain ⟨e0, heg00⟩ : ∃ e, o.esd[0]? = some e := ⟨_, List.getElem?_eq_getElem hl0⟩
 have he0i := ho.i.e e0 (List.mem_of_getElem? heg00)
 refine ⟨⟨o.esd.set q ⟨e0.name, e.kind, e.id, e.addr, e.len⟩, o.txt, o.rld, o.entry⟩, OSm_e ho.sm _ _ ⟨he0i.1, hei.2⟩, spoHE ho hn b rfl e16 w16 i16 hrm wq hql fun cap hc1 hc2 => ?_⟩
 obtain ⟨hgq, hgs, hlc, hcd⟩ := yt8 yg7 heg ⟨e0.name, e.kind, e.id, e.addr, e.len⟩ 0 (by omega) rfl rfl cap
 simp only [Nat.add_zero, strB] at hgq hgs hcd
 have hg0 := (yt8 yg7 heg00 e0 0 (by omega) rfl rfl cap).1
 simp only [Nat.add_zero, Nat.zero_mul, strB] at hg0
 refine yc9 ?_
 refine yt9 [1, 2, 3, 6, 7, 23] (by simp [hk16, wk]; rfl) ?_
 refine yp9 ?_
 refine W_cF [1, 2, 3, 6, 7, 23, 24] (by simp; rfl) rfl ?_
 refine W_cF [1, 2, 3, 6, 7, 23, 35] (by simp; rfl) rfl ?_
 refine W_cF [1, 2, 3, 6, 7, 23, 46] (by simp; rfl) rfl ?_
 refine W_cF [1, 2, 3, 6, 7, 23, 57] (by simp; rfl) rfl ?_
 refine W_cF [1, 2, 3, 6, 7, 23, 68] (by simp; rfl) rfl ?_
 refine W_cT [1, 2, 3, 6, 7, 23, 82] (by simp; rfl) rfl ?_
 refine zd9 [1, 2, 3, 6] (by simp [hgq, hgs, hlc, hcd, hg0, hl0]; rfl) ?_
 refine tail2 ho hn hk (.inl (by decide)) rfl ?_
 refine tail3 ho hn hk (.inl (by decide)) rfl ?_
 refine yt9 [6] (by simp [yd9, strB]; rfl) ?_
 refine zq9 ?_
 repeat (first | refine yg9 ?_ | refine yh9 ?_)
 exact retE (by simp)
theorem spo6 (o : OMod) (ho : OSn o) (n : Nat) (hn : n < 256) (b : Int) (hk : n % 16 = 6) : ∃ o', OSm o' ∧ Sound Try.prog 13 [obA o, .v (.int .u8 n), .v (.int .i64 b)] (obA o') := by
 obtain ⟨n16, _, e16, w16, i16⟩ := spoN n hn
 have hk16 := tmod16 hk
 have wk := wu8 (n := 6) (by omega) (by omega)
 obtain ⟨q, e, heg, hql, hqi, hl0, hl0n, hl0i, hrm, wq, _, heg0⟩ := spoX o.esd ho.e0 ho.e n16
 have hei := ho.i.e e (List.mem_of_getElem? heg)
 refine ⟨⟨o.esd, o.txt, o.rld, o.entry ++ [88]⟩, OSm_n ho.sm _, spoHE ho hn b rfl e16 w16 i16 hrm wq hql fun cap hc1 hc2 => ?_⟩
 obtain ⟨hgq, hgs, hlc, hcd⟩ := yt8 yg7 heg e 0 (by omega) rfl rfl cap
 simp only [Nat.add_zero, strB] at hgq hgs hcd
 refine yc9 ?_
 refine yt9 [1, 2, 3, 6, 7, 23] (by simp [hk16, wk]; rfl) ?_
 refine yp9 ?_
 refine W_cF [1, 2, 3, 6, 7, 23, 24] (by simp; rfl) rfl ?_
 refine W_cF [1, 2, 3, 6, 7, 23, 35] (by simp; rfl) rfl ?_
 refine W_cF [1, 2, 3, 6, 7, 23, 46] (by simp; rfl) rfl ?_
 refine W_cF [1, 2, 3, 6, 7, 23, 57] (by simp; rfl) rfl ?_
 refine W_cF [1, 2, 3, 6, 7, 23, 68] (by simp; rfl) rfl ?_
 refine W_cF [1, 2, 3, 6, 7, 23, 82] (by simp; rfl) rfl ?_
 refine W_cT [1, 2, 3, 6, 7, 23, 92] (by simp; rfl) rfl ?_
 refine W_rE [1, 2, 3, 6] ?_
 refine yq9 2 (by simp; rfl) rfl ?_
 refine runA_addS (a := o.entry) (b := [88]) (by simp) rfl rfl rfl (by have := ho.en; simp; omega) (by simp; rfl) ?_
 refine yw9 (by simp [yd9, strB]; rfl) ?_
 refine tail2 ho hn hk (.inl (by decide)) rfl ?_
 refine tail3 ho hn hk (.inl (by decide)) rfl ?_
 refine yt9 [6] (by simp [yd9, strB]; rfl) ?_
 refine zq9 ?_
 repeat (first | refine yg9 ?_ | refine yh9 ?_)
 exact retE rfl
theorem spo7 (o : OMod) (ho : OSn o) (n : Nat) (hn : n < 256) (b : Int) (hk : n % 16 = 7) : ∃ o', OSm o' ∧ Sound Try.prog 13 [obA o, .v (.int .u8 n), .v (.int .i64 b)] (obA o') := by
 obtain ⟨n16, _, e16, w16, i16⟩ := spoN n hn
 have hk16 := tmod16 hk
 have wk := wu8 (n := 7) (by omega) (by omega)
 obtain ⟨q, e, heg, hql, hqi, hl0, hl0n, hl0i, hrm, wq, _, heg0⟩ := spoX o.esd ho.e0 ho.e n16
 have hei := ho.i.e e (List.mem_of_getElem? heg)
 refine ⟨⟨o.esd, o.txt, o.rld, e.name⟩, OSm_n ho.sm _, spoHE ho hn b rfl e16 w16 i16 hrm wq hql fun cap hc1 hc2 => ?_⟩
 obtain ⟨hgq, hgs, hlc, hcd⟩ := yt8 yg7 heg e 0 (by omega) rfl rfl cap
 simp only [Nat.add_zero, strB] at hgq hgs hcd
 refine yc9 ?_
 refine yt9 [1, 2, 3, 6, 7, 23] (by simp [hk16, wk]; rfl) ?_
 refine yp9 ?_
 refine W_cF [1, 2, 3, 6, 7, 23, 24] (by simp; rfl) rfl ?_
 refine W_cF [1, 2, 3, 6, 7, 23, 35] (by simp; rfl) rfl ?_
 refine W_cF [1, 2, 3, 6, 7, 23, 46] (by simp; rfl) rfl ?_
 refine W_cF [1, 2, 3, 6, 7, 23, 57] (by simp; rfl) rfl ?_
 refine W_cF [1, 2, 3, 6, 7, 23, 68] (by simp; rfl) rfl ?_
 refine W_cF [1, 2, 3, 6, 7, 23, 82] (by simp; rfl) rfl ?_
 refine W_cF [1, 2, 3, 6, 7, 23, 92] (by simp; rfl) rfl ?_
 refine W_cT [1, 2, 3, 6, 7, 23, 98] (by simp; rfl) rfl ?_
 refine zd9 [1, 2, 3, 6] (by simp [yd9, hgq, hlc, hcd]; rfl) ?_
 refine tail2 ho hn hk (.inl (by decide)) rfl ?_
 refine tail3 ho hn hk (.inl (by decide)) rfl ?_
 refine yt9 [6] (by simp [yd9, strB]; rfl) ?_
 refine zq9 ?_
 repeat (first | refine yg9 ?_ | refine yh9 ?_)
 exact retE rfl
end Go.AM
namespace Go.AM
open Go.RowKit Go.Proofs
set_option linter.unusedSimpArgs false
set_option linter.unusedVariables false
set_option maxHeartbeats 8000000
theorem spo8 (o : OMod) (ho : OSn o) (ht0 : o.txt ≠ []) (n : Nat) (hn : n < 256) (b : Int) (hk : n % 16 = 8) : ∃ o', OSm o' ∧ Sound Try.prog 13 [obA o, .v (.int .u8 n), .v (.int .i64 b)] (obA o') := by
 obtain ⟨n16, _, e16, w16, i16⟩ := spoN n hn
 have hk16 := tmod16 hk
 have wk := wu8 (n := 8) (by omega) (by omega)
 obtain ⟨q2, t, htg, hq2l, hq2i, ht1, ht1n, ht1i, htmm, wq2, _, htg0⟩ := spoX o.txt ht0 ho.t n16
 have htgg : (txL o.txt)[q2]? = some (txA t) := by rw [txL_get, htg]; rfl
 have hti := ho.i.t t (List.mem_of_getElem? htg)
 refine ⟨⟨o.esd, o.txt.set q2 ⟨IntKind.i64.wrap (t.id + b), t.addr, t.data⟩, o.rld, o.entry⟩, OSm_t ho.sm _ _ ⟨hti.1, hti.2⟩, spoHT ho ht0 hn b rfl fun cap e hc1 hc2 => ?_⟩
 obtain ⟨hgq, hgs, hlc, hcd⟩ := yt8 txC_len htg ⟨IntKind.i64.wrap (t.id + b), t.addr, t.data⟩ 0 (by omega) rfl rfl cap
 simp only [Nat.add_zero] at hgq hgs hcd
 refine yc9 ?_
 refine yt9 [1, 2, 3, 6, 7, 23] (by simp [hk16, wk]; rfl) ?_
 refine yp9 ?_
 refine W_cF [1, 2, 3, 6, 7, 23, 24] (by simp; rfl) rfl ?_
 refine W_cF [1, 2, 3, 6, 7, 23, 35] (by simp; rfl) rfl ?_
 refine W_cF [1, 2, 3, 6, 7, 23, 46] (by simp; rfl) rfl ?_
 refine W_cF [1, 2, 3, 6, 7, 23, 57] (by simp; rfl) rfl ?_
 refine W_cF [1, 2, 3, 6, 7, 23, 68] (by simp; rfl) rfl ?_
 refine W_cF [1, 2, 3, 6, 7, 23, 82] (by simp; rfl) rfl ?_
 refine W_cF [1, 2, 3, 6, 7, 23, 92] (by simp; rfl) rfl ?_
 refine W_cF [1, 2, 3, 6, 7, 23, 98] (by simp; rfl) rfl ?_
 refine ym9 [1, 2, 3, 6] ?_
 refine yk9 ?_
 refine yc9 ?_
 refine W_cT [1, 2, 3, 6, 108] (by simp [ht1]; rfl) rfl ?_
 refine W_dvK [1, 2, 3, 6, 8] mx (by decide +kernel) (by simp [e16, w16, i16, htmm, wq2, hq2l, hq2i, htg0, ht1, ht1n, ht1i, htgg]; rfl) ?_
 refine yt9 [1, 2, 3, 6, 8, 120] (by simp [hk16, wk]; rfl) ?_
 refine yp9 ?_
 refine W_cT [1, 2, 3, 6, 8, 120, 121] (by simp; rfl) rfl ?_
 refine zd9 [1, 2, 3, 6] (by simp [hgq, hgs, hlc, hcd]; rfl) ?_
 refine tail3 ho hn hk (.inl (by decide)) rfl ?_
 refine yt9 [6] (by simp [yd9, strB]; rfl) ?_
 refine zq9 ?_
 repeat (first | refine yg9 ?_ | refine yh9 ?_)
 exact retT (by simp)
theorem spo9 (o : OMod) (ho : OSn o) (ht0 : o.txt ≠ []) (n : Nat) (hn : n < 256) (b : Int) (hk : n % 16 = 9) : ∃ o', OSm o' ∧ Sound Try.prog 13 [obA o, .v (.int .u8 n), .v (.int .i64 b)] (obA o') := by
 obtain ⟨n16, _, e16, w16, i16⟩ := spoN n hn
 have hk16 := tmod16 hk
 have wk := wu8 (n := 9) (by omega) (by omega)
 obtain ⟨q2, t, htg, hq2l, hq2i, ht1, ht1n, ht1i, htmm, wq2, _, htg0⟩ := spoX o.txt ht0 ho.t n16
 have htgg : (txL o.txt)[q2]? = some (txA t) := by rw [txL_get, htg]; rfl
 have hti := ho.i.t t (List.mem_of_getElem? htg)
 refine ⟨⟨o.esd, o.txt.set q2 ⟨t.id, IntKind.i64.wrap (t.addr + b), t.data⟩, o.rld, o.entry⟩, OSm_t ho.sm _ _ ⟨i64r_wrap _, hti.2⟩, spoHT ho ht0 hn b rfl fun cap e hc1 hc2 => ?_⟩
 obtain ⟨hgq, hgs, hlc, hcd⟩ := yt8 txC_len htg ⟨t.id, IntKind.i64.wrap (t.addr + b), t.data⟩ 1 (by omega) rfl rfl cap
 refine yc9 ?_
 refine yt9 [1, 2, 3, 6, 7, 23] (by simp [hk16, wk]; rfl) ?_
 refine yp9 ?_
 refine W_cF [1, 2, 3, 6, 7, 23, 24] (by simp; rfl) rfl ?_
 refine W_cF [1, 2, 3, 6, 7, 23, 35] (by simp; rfl) rfl ?_
 refine W_cF [1, 2, 3, 6, 7, 23, 46] (by simp; rfl) rfl ?_
 refine W_cF [1, 2, 3, 6, 7, 23, 57] (by simp; rfl) rfl ?_
 refine W_cF [1, 2, 3, 6, 7, 23, 68] (by simp; rfl) rfl ?_
 refine W_cF [1, 2, 3, 6, 7, 23, 82] (by simp; rfl) rfl ?_
 refine W_cF [1, 2, 3, 6, 7, 23, 92] (by simp; rfl) rfl ?_
 refine W_cF [1, 2, 3, 6, 7, 23, 98] (by simp; rfl) rfl ?_
 refine ym9 [1, 2, 3, 6] ?_
 refine yk9 ?_
 refine yc9 ?_
 refine W_cT [1, 2, 3, 6, 108] (by simp [ht1]; rfl) rfl ?_
 refine W_dvK [1, 2, 3, 6, 8] mx (by decide +kernel) (by simp [e16, w16, i16, htmm, wq2, hq2l, hq2i, htg0, ht1, ht1n, ht1i, htgg]; rfl) ?_
 refine yt9 [1, 2, 3, 6, 8, 120] (by simp [hk16, wk]; rfl) ?_
 refine yp9 ?_
 refine W_cF [1, 2, 3, 6, 8, 120, 121] (by simp; rfl) rfl ?_
 refine W_cT [1, 2, 3, 6, 8, 120, 132] (by simp; rfl) rfl ?_
 refine zd9 [1, 2, 3, 6] (by simp [hgq, hgs, hlc, hcd]; rfl) ?_
 refine tail3 ho hn hk (.inl (by decide)) rfl ?_
 refine yt9 [6] (by simp [yd9, strB]; rfl) ?_
 refine zq9 ?_
 repeat (first | refine yg9 ?_ | refine yh9 ?_)
 exact retT (by simp)
theorem spo10 (o : OMod) (ho : OSn o) (ht0 : o.txt ≠ []) (n : Nat) (hn : n < 256) (b : Int) (hk : n % 16 = 10) : ∃ o', OSm o' ∧ Sound Try.prog 13 [obA o, .v (.int .u8 n), .v (.int .i64 b)] (obA o') := by
 obtain ⟨n16, _, e16, w16, i16⟩ := spoN n hn
 have hk16 := tmod16 hk
 have wk := wu8 (n := 10) (by omega) (by omega)
 obtain ⟨q2, t, htg, hq2l, hq2i, ht1, ht1n, ht1i, htmm, wq2, _, htg0⟩ := spoX o.txt ht0 ho.t n16
 have htgg : (txL o.txt)[q2]? = some (txA t) := by rw [txL_get, htg]; rfl
 have hti := ho.i.t t (List.mem_of_getElem? htg)
 refine ⟨⟨o.esd, o.txt.set q2 ⟨t.id, t.addr, []⟩, o.rld, o.entry⟩, OSm_t ho.sm _ _ ⟨hti.1, by simp⟩, spoHT ho ht0 hn b rfl fun cap e hc1 hc2 => ?_⟩
 obtain ⟨hgq, hgs, hlc, hcd⟩ := yt8 txC_len htg t 2 (by omega) rfl rfl cap
 have hgs2 := txN_set htg (List.replicate ((cap - o.txt.length) * 3) .any)
 refine yc9 ?_
 refine yt9 [1, 2, 3, 6, 7, 23] (by simp [hk16, wk]; rfl) ?_
 refine yp9 ?_
 refine W_cF [1, 2, 3, 6, 7, 23, 24] (by simp; rfl) rfl ?_
 refine W_cF [1, 2, 3, 6, 7, 23, 35] (by simp; rfl) rfl ?_
 refine W_cF [1, 2, 3, 6, 7, 23, 46] (by simp; rfl) rfl ?_
 refine W_cF [1, 2, 3, 6, 7, 23, 57] (by simp; rfl) rfl ?_
 refine W_cF [1, 2, 3, 6, 7, 23, 68] (by simp; rfl) rfl ?_
 refine W_cF [1, 2, 3, 6, 7, 23, 82] (by simp; rfl) rfl ?_
 refine W_cF [1, 2, 3, 6, 7, 23, 92] (by simp; rfl) rfl ?_
 refine W_cF [1, 2, 3, 6, 7, 23, 98] (by simp; rfl) rfl ?_
 refine ym9 [1, 2, 3, 6] ?_
 refine yk9 ?_
 refine yc9 ?_
 refine W_cT [1, 2, 3, 6, 108] (by simp [ht1]; rfl) rfl ?_
 refine W_dvK [1, 2, 3, 6, 8] mx (by decide +kernel) (by simp [e16, w16, i16, htmm, wq2, hq2l, hq2i, htg0, ht1, ht1n, ht1i, htgg]; rfl) ?_
 refine yt9 [1, 2, 3, 6, 8, 120] (by simp [hk16, wk]; rfl) ?_
 refine yp9 ?_
 refine W_cF [1, 2, 3, 6, 8, 120, 121] (by simp; rfl) rfl ?_
 refine W_cF [1, 2, 3, 6, 8, 120, 132] (by simp; rfl) rfl ?_
 refine W_cT [1, 2, 3, 6, 8, 120, 143] (by simp; rfl) rfl ?_
 refine zd9 [1, 2, 3, 6] (by simp [hgs2, hlc, hcd]; rfl) ?_
 refine tail3 ho hn hk (.inl (by decide)) rfl ?_
 refine yt9 [6] (by simp [yd9, strB]; rfl) ?_
 refine zq9 ?_
 repeat (first | refine yg9 ?_ | refine yh9 ?_)
 exact retTN rfl
theorem spo11 (o : OMod) (ho : OSn o) (ht0 : o.txt ≠ []) (n : Nat) (hn : n < 256) (b : Int) (hk : n % 16 = 11) : ∃ o', OSm o' ∧ Sound Try.prog 13 [obA o, .v (.int .u8 n), .v (.int .i64 b)] (obA o') := by
 obtain ⟨n16, _, e16, w16, i16⟩ := spoN n hn
 have hk16 := tmod16 hk
 have wk := wu8 (n := 11) (by omega) (by omega)
 obtain ⟨q2, t, htg, hq2l, hq2i, ht1, ht1n, ht1i, htmm, wq2, _, htg0⟩ := spoX o.txt ht0 ho.t n16
 have htgg : (txL o.txt)[q2]? = some (txA t) := by rw [txL_get, htg]; rfl
 have hti := ho.i.t t (List.mem_of_getElem? htg)
 refine ⟨⟨o.esd, o.txt.set q2 ⟨t.id, t.addr, z57⟩, o.rld, o.entry⟩, OSm_t ho.sm _ _ ⟨hti.1, by simp [z57_len]⟩, spoHT ho ht0 hn b rfl fun cap e hc1 hc2 => ?_⟩
 obtain ⟨hgq, hgs, hlc, hcd⟩ := yt8 txC_len htg ⟨t.id, t.addr, z57⟩ 2 (by omega) rfl rfl cap
 have hl : q2 * 3 + 2 < (flC txC o.txt ++ List.replicate ((cap - o.txt.length) * 3) AV.any).length := by simp; omega
 have hgs1 := setSeg_one (.arr 3 0 57 57) hl
 have hgs2 := (setSeg_one _ hl).symm.trans hgs
 have hgq2 : ((flC txC o.txt ++ List.replicate ((cap - o.txt.length) * 3) AV.any).set (q2 * 3 + 2) (.arr 3 0 57 57))[q2 * 3 + 2]? = some (.arr 3 0 57 57) := by rw [List.getElem?_set_self hl]
 refine yc9 ?_
 refine yt9 [1, 2, 3, 6, 7, 23] (by simp [hk16, wk]; rfl) ?_
 refine yp9 ?_
 refine W_cF [1, 2, 3, 6, 7, 23, 24] (by simp; rfl) rfl ?_
 refine W_cF [1, 2, 3, 6, 7, 23, 35] (by simp; rfl) rfl ?_
 refine W_cF [1, 2, 3, 6, 7, 23, 46] (by simp; rfl) rfl ?_
 refine W_cF [1, 2, 3, 6, 7, 23, 57] (by simp; rfl) rfl ?_
 refine W_cF [1, 2, 3, 6, 7, 23, 68] (by simp; rfl) rfl ?_
 refine W_cF [1, 2, 3, 6, 7, 23, 82] (by simp; rfl) rfl ?_
 refine W_cF [1, 2, 3, 6, 7, 23, 92] (by simp; rfl) rfl ?_
 refine W_cF [1, 2, 3, 6, 7, 23, 98] (by simp; rfl) rfl ?_
 refine ym9 [1, 2, 3, 6] ?_
 refine yk9 ?_
 refine yc9 ?_
 refine W_cT [1, 2, 3, 6, 108] (by simp [ht1]; rfl) rfl ?_
 refine W_dvK [1, 2, 3, 6, 8] mx (by decide +kernel) (by simp [e16, w16, i16, htmm, wq2, hq2l, hq2i, htg0, ht1, ht1n, ht1i, htgg]; rfl) ?_
 refine yt9 [1, 2, 3, 6, 8, 120] (by simp [hk16, wk]; rfl) ?_
 refine yp9 ?_
 refine W_cF [1, 2, 3, 6, 8, 120, 121] (by simp; rfl) rfl ?_
 refine W_cF [1, 2, 3, 6, 8, 120, 132] (by simp; rfl) rfl ?_
 refine W_cF [1, 2, 3, 6, 8, 120, 143] (by simp; rfl) rfl ?_
 refine W_cT [1, 2, 3, 6, 8, 120, 148] (by simp; rfl) rfl ?_
 refine zd9 [1, 2, 3, 6] (by simp [hgs1, hlc, hcd]; rfl) ?_
 refine W_frzP 2 (q2 * 3 + 2) (tk := 1) rfl hgq2 (by decide) rfl (frz57 rfl) ?_
 simp only [List.set_cons_succ, List.set_cons_zero, List.set_set, AV.plain, hgs2]
 refine tail3 ho hn hk (.inl (by decide)) rfl ?_
 refine yt9 [6] (by simp [yd9, strB]; rfl) ?_
 refine zq9 ?_
 repeat (first | refine yg9 ?_ | refine yh9 ?_)
 exact retT (by simp)
end Go.AM
namespace Go.AM
open Go.RowKit Go.Proofs
set_option linter.unusedSimpArgs false
set_option linter.unusedVariables false
set_option maxHeartbeats 8000000
theorem spo12 (o : OMod) (ho : OSn o) (hr0 : o.rld ≠ []) (n : Nat) (hn : n < 256) (b : Int) (hk : n % 16 = 12) : ∃ o', OSm o' ∧ Sound Try.prog 13 [obA o, .v (.int .u8 n), .v (.int .i64 b)] (obA o') := by
 obtain ⟨n16, _, e16, w16, i16⟩ := spoN n hn
 have hk16 := tmod16 hk
 have wk := wu8 (n := 12) (by omega) (by omega)
 obtain ⟨q3, r, hrg, hq3l, hq3i, hr1, hr1n, hr1i, hrmm, wq3, _, hrg0⟩ := spoX o.rld hr0 ho.r n16
 have hrgg : (rdL o.rld)[q3]? = some (rdA r) := by rw [rdL_get, hrg]; rfl
 have hri := ho.i.r r (List.mem_of_getElem? hrg)
 refine ⟨⟨o.esd, o.txt, o.rld.set q3 ⟨IntKind.i64.wrap (r.in_ + b), r.to_, r.addr, r.len, r.neg⟩, o.entry⟩, OSm_r ho.sm _ _ hri, spoHD ho hr0 hn b rfl fun cap e hc1 hc2 => ?_⟩
 obtain ⟨hgq, hgs, hlc, hcd⟩ := yt8 rdC_len hrg ⟨IntKind.i64.wrap (r.in_ + b), r.to_, r.addr, r.len, r.neg⟩ 0 (by omega) rfl rfl cap
 simp only [Nat.add_zero] at hgq hgs hcd
 refine yc9 ?_
 refine yt9 [1, 2, 3, 6, 7, 23] (by simp [hk16, wk]; rfl) ?_
 refine yp9 ?_
 refine W_cF [1, 2, 3, 6, 7, 23, 24] (by simp; rfl) rfl ?_
 refine W_cF [1, 2, 3, 6, 7, 23, 35] (by simp; rfl) rfl ?_
 refine W_cF [1, 2, 3, 6, 7, 23, 46] (by simp; rfl) rfl ?_
 refine W_cF [1, 2, 3, 6, 7, 23, 57] (by simp; rfl) rfl ?_
 refine W_cF [1, 2, 3, 6, 7, 23, 68] (by simp; rfl) rfl ?_
 refine W_cF [1, 2, 3, 6, 7, 23, 82] (by simp; rfl) rfl ?_
 refine W_cF [1, 2, 3, 6, 7, 23, 92] (by simp; rfl) rfl ?_
 refine W_cF [1, 2, 3, 6, 7, 23, 98] (by simp; rfl) rfl ?_
 refine ym9 [1, 2, 3, 6] ?_
 refine yk9 ?_
 refine tail2 ho hn hk (.inr (.inl (by decide))) rfl ?_
 refine yc9 ?_
 refine W_cT [1, 2, 3, 6, 157] (by simp [hr1]; rfl) rfl ?_
 refine W_dvK [1, 2, 3, 6, 9] mx (by decide +kernel) (by simp [e16, w16, i16, hrmm, wq3, hq3l, hq3i, hrg0, hr1, hr1n, hr1i, hrgg]; rfl) ?_
 refine yt9 [2, 3, 6, 9, 169] (by simp [hk16, wk]; rfl) ?_
 refine yp9 ?_
 refine W_cT [2, 3, 6, 9, 169, 170] (by simp; rfl) rfl ?_
 refine zd9 [3, 6] (by simp [hgq, hgs, hlc, hcd]; rfl) ?_
 refine yt9 [6] (by simp [yd9, strB]; rfl) ?_
 refine zq9 ?_
 repeat (first | refine yg9 ?_ | refine yh9 ?_)
 exact retD (by simp)
theorem spo13 (o : OMod) (ho : OSn o) (hr0 : o.rld ≠ []) (n : Nat) (hn : n < 256) (b : Int) (hk : n % 16 = 13) : ∃ o', OSm o' ∧ Sound Try.prog 13 [obA o, .v (.int .u8 n), .v (.int .i64 b)] (obA o') := by
 obtain ⟨n16, _, e16, w16, i16⟩ := spoN n hn
 have hk16 := tmod16 hk
 have wk := wu8 (n := 13) (by omega) (by omega)
 obtain ⟨q3, r, hrg, hq3l, hq3i, hr1, hr1n, hr1i, hrmm, wq3, _, hrg0⟩ := spoX o.rld hr0 ho.r n16
 have hrgg : (rdL o.rld)[q3]? = some (rdA r) := by rw [rdL_get, hrg]; rfl
 have hri := ho.i.r r (List.mem_of_getElem? hrg)
 refine ⟨⟨o.esd, o.txt, o.rld.set q3 ⟨r.in_, IntKind.i64.wrap (r.to_ + b), r.addr, r.len, r.neg⟩, o.entry⟩, OSm_r ho.sm _ _ hri, spoHD ho hr0 hn b rfl fun cap e hc1 hc2 => ?_⟩
 obtain ⟨hgq, hgs, hlc, hcd⟩ := yt8 rdC_len hrg ⟨r.in_, IntKind.i64.wrap (r.to_ + b), r.addr, r.len, r.neg⟩ 1 (by omega) rfl rfl cap
 refine yc9 ?_
 refine yt9 [1, 2, 3, 6, 7, 23] (by simp [hk16, wk]; rfl) ?_
 refine yp9 ?_
 refine W_cF [1, 2, 3, 6, 7, 23, 24] (by simp; rfl) rfl ?_
 refine W_cF [1, 2, 3, 6, 7, 23, 35] (by simp; rfl) rfl ?_
 refine W_cF [1, 2, 3, 6, 7, 23, 46] (by simp; rfl) rfl ?_
 refine W_cF [1, 2, 3, 6, 7, 23, 57] (by simp; rfl) rfl ?_
 refine W_cF [1, 2, 3, 6, 7, 23, 68] (by simp; rfl) rfl ?_
 refine W_cF [1, 2, 3, 6, 7, 23, 82] (by simp; rfl) rfl ?_
 refine W_cF [1, 2, 3, 6, 7, 23, 92] (by simp; rfl) rfl ?_
 refine W_cF [1, 2, 3, 6, 7, 23, 98] (by simp; rfl) rfl ?_
 refine ym9 [1, 2, 3, 6] ?_
 refine yk9 ?_
 refine tail2 ho hn hk (.inr (.inl (by decide))) rfl ?_
 refine yc9 ?_
 refine W_cT [1, 2, 3, 6, 157] (by simp [hr1]; rfl) rfl ?_
 refine W_dvK [1, 2, 3, 6, 9] mx (by decide +kernel) (by simp [e16, w16, i16, hrmm, wq3, hq3l, hq3i, hrg0, hr1, hr1n, hr1i, hrgg]; rfl) ?_
 refine yt9 [2, 3, 6, 9, 169] (by simp [hk16, wk]; rfl) ?_
 refine yp9 ?_
 refine W_cF [2, 3, 6, 9, 169, 170] (by simp; rfl) rfl ?_
 refine W_cT [2, 3, 6, 9, 169, 181] (by simp; rfl) rfl ?_
 refine zd9 [3, 6] (by simp [hgq, hgs, hlc, hcd]; rfl) ?_
 refine yt9 [6] (by simp [yd9, strB]; rfl) ?_
 refine zq9 ?_
 repeat (first | refine yg9 ?_ | refine yh9 ?_)
 exact retD (by simp)
theorem spo14 (o : OMod) (ho : OSn o) (hr0 : o.rld ≠ []) (n : Nat) (hn : n < 256) (b : Int) (hk : n % 16 = 14) : ∃ o', OSm o' ∧ Sound Try.prog 13 [obA o, .v (.int .u8 n), .v (.int .i64 b)] (obA o') := by
 obtain ⟨n16, _, e16, w16, i16⟩ := spoN n hn
 have hk16 := tmod16 hk
 have wk := wu8 (n := 14) (by omega) (by omega)
 obtain ⟨q3, r, hrg, hq3l, hq3i, hr1, hr1n, hr1i, hrmm, wq3, _, hrg0⟩ := spoX o.rld hr0 ho.r n16
 have hrgg : (rdL o.rld)[q3]? = some (rdA r) := by rw [rdL_get, hrg]; rfl
 have hri := ho.i.r r (List.mem_of_getElem? hrg)
 refine ⟨⟨o.esd, o.txt, o.rld.set q3 ⟨r.in_, r.to_, IntKind.i64.wrap (r.addr + b), r.len, r.neg⟩, o.entry⟩, OSm_r ho.sm _ _ (i64r_wrap _), spoHD ho hr0 hn b rfl fun cap e hc1 hc2 => ?_⟩
 obtain ⟨hgq, hgs, hlc, hcd⟩ := yt8 rdC_len hrg ⟨r.in_, r.to_, IntKind.i64.wrap (r.addr + b), r.len, r.neg⟩ 2 (by omega) rfl rfl cap
 refine yc9 ?_
 refine yt9 [1, 2, 3, 6, 7, 23] (by simp [hk16, wk]; rfl) ?_
 refine yp9 ?_
 refine W_cF [1, 2, 3, 6, 7, 23, 24] (by simp; rfl) rfl ?_
 refine W_cF [1, 2, 3, 6, 7, 23, 35] (by simp; rfl) rfl ?_
 refine W_cF [1, 2, 3, 6, 7, 23, 46] (by simp; rfl) rfl ?_
 refine W_cF [1, 2, 3, 6, 7, 23, 57] (by simp; rfl) rfl ?_
 refine W_cF [1, 2, 3, 6, 7, 23, 68] (by simp; rfl) rfl ?_
 refine W_cF [1, 2, 3, 6, 7, 23, 82] (by simp; rfl) rfl ?_
 refine W_cF [1, 2, 3, 6, 7, 23, 92] (by simp; rfl) rfl ?_
 refine W_cF [1, 2, 3, 6, 7, 23, 98] (by simp; rfl) rfl ?_
 refine ym9 [1, 2, 3, 6] ?_
 refine yk9 ?_
 refine tail2 ho hn hk (.inr (.inl (by decide))) rfl ?_
 refine yc9 ?_
 refine W_cT [1, 2, 3, 6, 157] (by simp [hr1]; rfl) rfl ?_
 refine W_dvK [1, 2, 3, 6, 9] mx (by decide +kernel) (by simp [e16, w16, i16, hrmm, wq3, hq3l, hq3i, hrg0, hr1, hr1n, hr1i, hrgg]; rfl) ?_
 refine yt9 [2, 3, 6, 9, 169] (by simp [hk16, wk]; rfl) ?_
 refine yp9 ?_
 refine W_cF [2, 3, 6, 9, 169, 170] (by simp; rfl) rfl ?_
 refine W_cF [2, 3, 6, 9, 169, 181] (by simp; rfl) rfl ?_
 refine W_cT [2, 3, 6, 9, 169, 192] (by simp; rfl) rfl ?_
 refine zd9 [3, 6] (by simp [hgq, hgs, hlc, hcd]; rfl) ?_
 refine yt9 [6] (by simp [yd9, strB]; rfl) ?_
 refine zq9 ?_
 repeat (first | refine yg9 ?_ | refine yh9 ?_)
 exact retD (by simp)
theorem spo15 (o : OMod) (ho : OSn o) (hr0 : o.rld ≠ []) (n : Nat) (hn : n < 256) (b : Int) (hk : n % 16 = 15) : ∃ o', OSm o' ∧ Sound Try.prog 13 [obA o, .v (.int .u8 n), .v (.int .i64 b)] (obA o') := by
 obtain ⟨n16, _, e16, w16, i16⟩ := spoN n hn
 have hk16 := tmod16 hk
 have wk := wu8 (n := 15) (by omega) (by omega)
 obtain ⟨q3, r, hrg, hq3l, hq3i, hr1, hr1n, hr1i, hrmm, wq3, _, hrg0⟩ := spoX o.rld hr0 ho.r n16
 have hrgg : (rdL o.rld)[q3]? = some (rdA r) := by rw [rdL_get, hrg]; rfl
 have hri := ho.i.r r (List.mem_of_getElem? hrg)
 refine ⟨⟨o.esd, o.txt, o.rld.set q3 ⟨r.in_, r.to_, r.addr, IntKind.i64.wrap (r.len + b), r.neg⟩, o.entry⟩, OSm_r ho.sm _ _ hri, spoHD ho hr0 hn b rfl fun cap e hc1 hc2 => ?_⟩
 obtain ⟨hgq, hgs, hlc, hcd⟩ := yt8 rdC_len hrg ⟨r.in_, r.to_, r.addr, IntKind.i64.wrap (r.len + b), r.neg⟩ 3 (by omega) rfl rfl cap
 refine yc9 ?_
 refine yt9 [1, 2, 3, 6, 7, 23] (by simp [hk16, wk]; rfl) ?_
 refine yp9 ?_
 refine W_cF [1, 2, 3, 6, 7, 23, 24] (by simp; rfl) rfl ?_
 refine W_cF [1, 2, 3, 6, 7, 23, 35] (by simp; rfl) rfl ?_
 refine W_cF [1, 2, 3, 6, 7, 23, 46] (by simp; rfl) rfl ?_
 refine W_cF [1, 2, 3, 6, 7, 23, 57] (by simp; rfl) rfl ?_
 refine W_cF [1, 2, 3, 6, 7, 23, 68] (by simp; rfl) rfl ?_
 refine W_cF [1, 2, 3, 6, 7, 23, 82] (by simp; rfl) rfl ?_
 refine W_cF [1, 2, 3, 6, 7, 23, 92] (by simp; rfl) rfl ?_
 refine W_cF [1, 2, 3, 6, 7, 23, 98] (by simp; rfl) rfl ?_
 refine ym9 [1, 2, 3, 6] ?_
 refine yk9 ?_
 refine tail2 ho hn hk (.inr (.inl (by decide))) rfl ?_
 refine yc9 ?_
 refine W_cT [1, 2, 3, 6, 157] (by simp [hr1]; rfl) rfl ?_
 refine W_dvK [1, 2, 3, 6, 9] mx (by decide +kernel) (by simp [e16, w16, i16, hrmm, wq3, hq3l, hq3i, hrg0, hr1, hr1n, hr1i, hrgg]; rfl) ?_
 refine yt9 [2, 3, 6, 9, 169] (by simp [hk16, wk]; rfl) ?_
 refine yp9 ?_
 refine W_cF [2, 3, 6, 9, 169, 170] (by simp; rfl) rfl ?_
 refine W_cF [2, 3, 6, 9, 169, 181] (by simp; rfl) rfl ?_
 refine W_cF [2, 3, 6, 9, 169, 192] (by simp; rfl) rfl ?_
 refine W_cT [2, 3, 6, 9, 169, 203] (by simp; rfl) rfl ?_
 refine zd9 [3, 6] (by simp [hgq, hgs, hlc, hcd]; rfl) ?_
 refine yt9 [6] (by simp [yd9, strB]; rfl) ?_
 refine zq9 ?_
 repeat (first | refine yg9 ?_ | refine yh9 ?_)
 exact retD (by simp)
end Go.AM
namespace Go.AM
open Go.RowKit Go.Proofs
set_option linter.unusedSimpArgs false
set_option linter.unusedVariables false
set_option maxHeartbeats 4000000
set_option maxRecDepth 100000
def syAll : List UInt8 := [65, 66, 67, 68, 69, 70, 71, 72, 73, 74, 75, 76, 77, 78, 79, 80, 81, 82, 83, 84, 85, 86, 87, 88, 89, 90, 48, 49, 50, 51, 52, 53, 54, 55, 56, 57, 64, 35, 36]
def symG (i : Nat) : List UInt8 := (match i % 4 with | 0 => [83] | 1 => [64, 88] | 2 => [76, 79, 78, 71, 69, 82] | _ => [36]) ++ ([syAll.getD (i / 39 % 39) 0] ++ [syAll.getD (i % 39) 0])
theorem sy0 : Sound Try.prog 35 [.v (.int .i64 0)] (strB (symG 0)) := zs9 mx 300 (by kernel_rfl)
theorem sy1 : Sound Try.prog 35 [.v (.int .i64 1)] (strB (symG 1)) := zs9 mx 300 (by kernel_rfl)
theorem sy2 : Sound Try.prog 35 [.v (.int .i64 2)] (strB (symG 2)) := zs9 mx 300 (by kernel_rfl)
theorem sy3 : Sound Try.prog 35 [.v (.int .i64 3)] (strB (symG 3)) := zs9 mx 300 (by kernel_rfl)
theorem sy4 : Sound Try.prog 35 [.v (.int .i64 4)] (strB (symG 4)) := zs9 mx 300 (by kernel_rfl)
theorem sy5 : Sound Try.prog 35 [.v (.int .i64 5)] (strB (symG 5)) := zs9 mx 300 (by kernel_rfl)
theorem sy6 : Sound Try.prog 35 [.v (.int .i64 6)] (strB (symG 6)) := zs9 mx 300 (by kernel_rfl)
theorem sy7 : Sound Try.prog 35 [.v (.int .i64 7)] (strB (symG 7)) := zs9 mx 300 (by kernel_rfl)
theorem sy8 : Sound Try.prog 35 [.v (.int .i64 8)] (strB (symG 8)) := zs9 mx 300 (by kernel_rfl)
theorem sy9 : Sound Try.prog 35 [.v (.int .i64 9)] (strB (symG 9)) := zs9 mx 300 (by kernel_rfl)
theorem sy10 : Sound Try.prog 35 [.v (.int .i64 10)] (strB (symG 10)) := zs9 mx 300 (by kernel_rfl)
theorem sy11 : Sound Try.prog 35 [.v (.int .i64 11)] (strB (symG 11)) := zs9 mx 300 (by kernel_rfl)
theorem sy12 : Sound Try.prog 35 [.v (.int .i64 12)] (strB (symG 12)) := zs9 mx 300 (by kernel_rfl)
theorem sy13 : Sound Try.prog 35 [.v (.int .i64 13)] (strB (symG 13)) := zs9 mx 300 (by kernel_rfl)
theorem sy14 : Sound Try.prog 35 [.v (.int .i64 14)] (strB (symG 14)) := zs9 mx 300 (by kernel_rfl)
theorem sy15 : Sound Try.prog 35 [.v (.int .i64 15)] (strB (symG 15)) := zs9 mx 300 (by kernel_rfl)
theorem sy16 : Sound Try.prog 35 [.v (.int .i64 16)] (strB (symG 16)) := zs9 mx 300 (by kernel_rfl)
theorem sy17 : Sound Try.prog 35 [.v (.int .i64 17)] (strB (symG 17)) := zs9 mx 300 (by kernel_rfl)
theorem sy18 : Sound Try.prog 35 [.v (.int .i64 18)] (strB (symG 18)) := zs9 mx 300 (by kernel_rfl)
theorem sy19 : Sound Try.prog 35 [.v (.int .i64 19)] (strB (symG 19)) := zs9 mx 300 (by kernel_rfl)
theorem sy20 : Sound Try.prog 35 [.v (.int .i64 20)] (strB (symG 20)) := zs9 mx 300 (by kernel_rfl)
theorem sy21 : Sound Try.prog 35 [.v (.int .i64 21)] (strB (symG 21)) := zs9 mx 300 (by kernel_rfl)
theorem sy22 : Sound Try.prog 35 [.v (.int .i64 22)] (strB (symG 22)) := zs9 mx 300 (by kernel_rfl)
theorem sy23 : Sound Try.prog 35 [.v (.int .i64 23)] (strB (symG 23)) := zs9 mx 300 (by kernel_rfl)
theorem sy24 : Sound Try.prog 35 [.v (.int .i64 24)] (strB (symG 24)) := zs9 mx 300 (by kernel_rfl)
theorem sy25 : Sound Try.prog 35 [.v (.int .i64 25)] (strB (symG 25)) := zs9 mx 300 (by kernel_rfl)
theorem sy26 : Sound Try.prog 35 [.v (.int .i64 26)] (strB (symG 26)) := zs9 mx 300 (by kernel_rfl)
theorem sy27 : Sound Try.prog 35 [.v (.int .i64 27)] (strB (symG 27)) := zs9 mx 300 (by kernel_rfl)
theorem sy28 : Sound Try.prog 35 [.v (.int .i64 28)] (strB (symG 28)) := zs9 mx 300 (by kernel_rfl)
theorem sy29 : Sound Try.prog 35 [.v (.int .i64 29)] (strB (symG 29)) := zs9 mx 300 (by kernel_rfl)
theorem sy30 : Sound Try.prog 35 [.v (.int .i64 30)] (strB (symG 30)) := zs9 mx 300 (by kernel_rfl)
theorem sy31 : Sound Try.prog 35 [.v (.int .i64 31)] (strB (symG 31)) := zs9 mx 300 (by kernel_rfl)
theorem sy32 : Sound Try.prog 35 [.v (.int .i64 32)] (strB (symG 32)) := zs9 mx 300 (by kernel_rfl)
theorem sy33 : Sound Try.prog 35 [.v (.int .i64 33)] (strB (symG 33)) := zs9 mx 300 (by kernel_rfl)
theorem sy34 : Sound Try.prog 35 [.v (.int .i64 34)] (strB (symG 34)) := zs9 mx 300 (by kernel_rfl)
theorem sy35 : Sound Try.prog 35 [.v (.int .i64 35)] (strB (symG 35)) := zs9 mx 300 (by kernel_rfl)
theorem sy36 : Sound Try.prog 35 [.v (.int .i64 36)] (strB (symG 36)) := zs9 mx 300 (by kernel_rfl)
theorem sy37 : Sound Try.prog 35 [.v (.int .i64 37)] (strB (symG 37)) := zs9 mx 300 (by kernel_rfl)
theorem sy38 : Sound Try.prog 35 [.v (.int .i64 38)] (strB (symG 38)) := zs9 mx 300 (by kernel_rfl)
theorem sy39 : Sound Try.prog 35 [.v (.int .i64 39)] (strB (symG 39)) := zs9 mx 300 (by kernel_rfl)
theorem symbol35_sound (i : Nat) (h : i < 40) : Sound Try.prog 35 [.v (.int .i64 (i : Nat))] (strB (symG i)) := by
 match i, h with
 | 0, _ => exact sy0
 | 1, _ => exact sy1
 | 2, _ => exact sy2
 | 3, _ => exact sy3
 | 4, _ => exact sy4
 | 5, _ => exact sy5
 | 6, _ => exact sy6
 | 7, _ => exact sy7
 | 8, _ => exact sy8
 | 9, _ => exact sy9
 | 10, _ => exact sy10
 | 11, _ => exact sy11
 | 12, _ => exact sy12
 | 13, _ => exact sy13
 | 14, _ => exact sy14
 | 15, _ => exact sy15
 | 16, _ => exact sy16
 | 17, _ => exact sy17
 | 18, _ => exact sy18
 | 19, _ => exact sy19
 | 20, _ => exact sy20
 | 21, _ => exact sy21
 | 22, _ => exact sy22
 | 23, _ => exact sy23
 | 24, _ => exact sy24
 | 25, _ => exact sy25
 | 26, _ => exact sy26
 | 27, _ => exact sy27
 | 28, _ => exact sy28
 | 29, _ => exact sy29
 | 30, _ => exact sy30
 | 31, _ => exact sy31
 | 32, _ => exact sy32
 | 33, _ => exact sy33
 | 34, _ => exact sy34
 | 35, _ => exact sy35
 | 36, _ => exact sy36
 | 37, _ => exact sy37
 | 38, _ => exact sy38
 | 39, _ => exact sy39
 | n + 40, h => omega
end Go.AM
