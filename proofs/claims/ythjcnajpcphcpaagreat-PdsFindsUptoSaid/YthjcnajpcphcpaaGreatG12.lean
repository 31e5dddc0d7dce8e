/- Parts of the walk: C24VH C24VI C24VJ C24VK C24XA C24XB R22T R23T C24Y. -/
import Derived.Test.YthjcnajpcphcpaaGreatG11
namespace Go.AM
open Go.RowKit Go.Proofs
set_option linter.unusedSimpArgs false
set_option linter.unusedVariables false
set_option maxHeartbeats 8000000
set_option maxRecDepth 20000
def vj9 (d : Dcb) (rs : List (List UInt8)) (ms : List ME) : List AV := [.v (.int .i64 d.org), .v (.int .i64 d.fmt), .v (.bool d.blk), .v (.bool d.asa), .v (.int .i64 d.lrecl), .v (.int .i64 d.size), .v (.int .i64 d.klen), .v (.int .i64 d.kpos), .lst .any 1 (bbL rs), .lst .any 2 (meL ms)]
def EntO (H : List AObj) (e : AV) (l : List RE) : Prop := (e = .lst .nil 10 [] ∧ l = []) ∨ ∃ idE capE csE, e = .arr idE 0 l.length capE ∧ H[idE]? = some (.cells 78 csE) ∧ EntC csE capE l
structure TkS (C : List AV) (n : Nat) (H : List AObj) (e : AV) (idT cap : Nat) (T : List (List Rec)) (cs : List AV) : Prop where
 shut : yb9 H.length H = true
 c0 : H[0]? = some (.cells 42 C)
 d2 : H[2]? = some (.cells 70 [e, .v (.int .i64 (n : Nat))])
 obj : H[idT]? = some (.cells 80 cs)
 rc : RC T cap cs
 kl : AV.killL 29 cs = cs
 cap : cap ≤ maxLen
theorem TkS.lt {C : List AV} {n : Nat} {H : List AObj} {e : AV} {idT cap : Nat} {T : List (List Rec)} {cs : List AV} (h : TkS C n H e idT cap T cs) : 2 < H.length := (List.getElem?_eq_some_iff.1 h.d2).1
theorem TkS.app {C : List AV} {n : Nat} {H : List AObj} {e : AV} {idT cap : Nat} {T : List (List Rec)} {cs : List AV} (h : TkS C n H e idT cap T cs) (X : List AObj) (hX : yb9 (H.length + X.length) X = true) : TkS C n (H ++ X) e idT cap T cs where
 shut := by rw [zn9, List.length_append, wp9 (by omega) _ h.shut, hX]; rfl
 c0 := by rw [List.getElem?_append_left (by have := h.lt; omega)]; exact h.c0
 d2 := by rw [List.getElem?_append_left h.lt]; exact h.d2
 obj := by rw [List.getElem?_append_left (List.getElem?_eq_some_iff.1 h.obj).1]; exact h.obj
 rc := h.rc
 kl := h.kl
 cap := h.cap
theorem TkS.setE {C : List AV} {n : Nat} {H : List AObj} {e : AV} {idT cap : Nat} {T : List (List Rec)} {cs : List AV} (h : TkS C n H e idT cap T cs) {j : Nat} {o : AObj} (h0 : j ≠ 0) (h2 : j ≠ 2) (ht : j ≠ idT) (ho : o.under H.length = true) :
  TkS C n (H.set j o) e idT cap T cs where
 shut := by rw [List.length_set]; exact wb9 h.shut ho
 c0 := by rw [List.getElem?_set_ne h0]; exact h.c0
 d2 := by rw [List.getElem?_set_ne h2]; exact h.d2
 obj := by rw [List.getElem?_set_ne ht]; exact h.obj
 rc := h.rc
 kl := h.kl
 cap := h.cap
theorem TkS.fin {C : List AV} {n : Nat} {H : List AObj} {e e' : AV} {idT cap : Nat} {T : List (List Rec)} {cs : List AV} (h : TkS C n H e idT cap T cs) (he : e'.under H.length = true) : TkS C n (H.set 2 (.cells 70 [e', .v (.int .i64 (n : Nat))])) e' idT cap T cs where
 shut := by
  rw [List.length_set]
  refine wb9 h.shut ?_
  show AV.underL _ [e', _] = true
  simp only [AV.underL, he, AV.under, Bool.and_self]
 c0 := by rw [List.getElem?_set_ne (by decide)]; exact h.c0
 d2 := by rw [List.getElem?_set_self h.lt]
 obj := by
  rw [List.getElem?_set_ne]
  ·exact h.obj
  ·intro hc
   have h1 := h.obj
   rw [← hc, h.d2] at h1
   cases h1
 rc := h.rc
 kl := h.kl
 cap := h.cap
theorem insE_nil (x : RE) : insE [] x = [x] := by simp [insE, posE, fndE]
theorem killL_vals {T : Nat} : ∀ {cs : List AV}, vals cs → AV.killL T cs = cs
 | [], _ => rfl
 | x :: cs, h => by
  obtain ⟨v, rfl⟩ := h x List.mem_cons_self
  simp only [AV.killL, AV.kill, killL_vals fun y hy => h y (List.mem_cons_of_mem _ hy)]
theorem under6 {M : Nat} {g0 g1 g2 g3 g4 : AObj} {cs : List AV} (hg : ∀ o ∈ [g0, g1, g2, g3, g4], o.under M = true) (hv : vals cs) : yb9 M [g0, g1, g2, g3, g4, .cells 78 cs] = true := by
 have hc : (AObj.cells 78 cs).under M = true := wq9 hv
 simp only [yb9, hg g0 (by simp), hg g1 (by simp), hg g2 (by simp), hg g3 (by simp), hg g4 (by simp), hc, Bool.and_self]
noncomputable def tkX : Code := bkC (sq1 (sq2 (sq2 (lpC (bkC (sq2 (sq1 (sq2 (sq2 (sq2 (sq2 (sq2 (sq2 (sq2 (sq2 (Tryz.f14.body.getD .skip))))))))))))))))
def tkSt (idT cap n : Nat) (T : List (List Rec)) (ms : List ME) (i : Nat) (H : List AObj) : St := ⟨102, [(2, .loc 0 0), (9, .loc 2 0), (10, .arr idT 0 T.length cap), (61, .lst .any 2 (meL ms)), (62, .v (.int .i64 (ms.length : Nat))), (63, .v (.int .i64 (i : Nat)))], H⟩
theorem tk_step {d : Dcb} {rs : List (List UInt8)} {ms : List ME} {n N : Nat} {H : List AObj} {e : AV} {l : List RE} {idT cap : Nat} {T : List (List Rec)} {cs : List AV} {i : Nat} {m : ME}
  (ts : TkS (vj9 d rs ms) n H e idT cap T cs) (he : EntO H e l) (hN : (n + 5) / 6 = N) (hn : n ≤ 1000) (hTv : ∀ t ∈ T, vtrk t = true) (hTl : T.length ≤ 40000000) (hNT : N ≤ T.length) (hp : l.Pairwise ltE) (h8 : ∀ x ∈ l, x.key.length = 8) (hl : l.length ≤ 1000000)
  (hmi : ms[i]? = some m) (hs : symM m.name = true) (hrl : m.recs.length ≤ 1000000) (hrr : ∀ r ∈ m.recs, r.length ≤ 1000000000)
  {Q : Exit → St → Prop} (hbad : ∀ H', (wd9 d m.recs).2 ≠ 0 → Q .ret ⟨102, [(4, .lst .nil 1 []), (5, .v (.int .i64 (wd9 d m.recs).2))], H'⟩)
  (hQ : (wd9 d m.recs).2 = 0 → ∀ H' e' idT' cap' cs', TkS (vj9 d rs ms) n H' e' idT' cap' (wrE N T (wd9 d m.recs).1).1 cs' → EntO H' e' (insE l ⟨padK m.name, (wrE N T (wd9 d m.recs).1).2.1, (wrE N T (wd9 d m.recs).1).2.2.toNat⟩) →
   Q .normal (tkSt idT' cap' n (wrE N T (wd9 d m.recs).1).1 ms i H')) :
  Wt true 0 Tryz.prog tkX Q (tkSt idT cap n T ms i H) := by
 have him : i < ms.length := (List.getElem?_eq_some_iff.1 hmi).1
 have himi : (i : Int) < ms.length := by omega
 have hme : ms[i]'him = m := (List.getElem?_eq_some_iff.1 hmi).2
 have hblk := block_sound d m.recs hrl hrr
 have hwp := wrE_place N T (wd9 d m.recs).1 hNT
 obtain ⟨p, hpe⟩ : ∃ p, wd9 d m.recs = p := ⟨_, rfl⟩
 rw [hpe] at hblk hbad hQ hwp
 unfold resB at hblk
 have hc0 := ts.c0
 unfold vj9 at hc0
 unfold tkSt
 refine yr9 [2, 9, 10, 61, 62, 63, 12] (by simp [him, himi, hme, meA, strB, yg9]; rfl) ?_
 obtain ⟨h, hh⟩ : ∃ h, H.length = h := ⟨_, rfl⟩
 rw [hh]
 have hlt := ts.lt
 obtain ⟨H1, hH1⟩ : ∃ H1, H ++ [AObj.cells 27 [.v (.string ⟨m.name.toArray⟩), .lst .any 1 (bbL m.recs)]] = H1 := ⟨_, rfl⟩
 rw [hH1]
 have hkeep1 : ∀ (j : Nat) o, H[j]? = some o → H1[j]? = some o := fun j o ho => by
  rw [← hH1, List.getElem?_append_left (List.getElem?_eq_some_iff.1 ho).1]; exact ho
 have hl1 : H1.length = h + 1 := by rw [← hH1, ← hh]; simp
 have hm1 : H1[h]? = some (.cells 27 [.v (.string ⟨m.name.toArray⟩), .lst .any 1 (bbL m.recs)]) := by rw [← hH1, ← hh]; simp
 have hc1 := hkeep1 _ _ ts.c0
 unfold vj9 at hc1
 have hd1 := hkeep1 _ _ ts.d2
 refine W_rK [2, 9, 10, 61, 62, 63, 12, 13, 14] ?_
 refine yq9 4 (by simp [hc1, hm1]; rfl) rfl ?_
 refine yf9 (by simp) (by first | (simp; done) | (simp; rfl)) hblk (by simp; rfl) ?_
 refine yw9 (by simp; rfl) ?_
 refine yh9 ?_
 by_cases c : p.2 = 0
 ·have c2 : (p.2 != 0) = false := by simpa using c
  refine yr9 [2, 9, 10, 61, 62, 63, 12, 13, 76] (by simp [c, c2]; rfl) ?_
  refine yt9 (t := false) rfl (fun h => by simp at h) (fun _ => ?_)
  refine ym9 [2, 9, 10, 61, 62, 63, 12, 13] ?_
  refine yj9 ?_
  repeat (first | refine on_norm ?_ | refine in_norm ?_)
  refine W_any 13 (sz := 1) (xs := bbL p.1) (o := .tip 90 145) rfl ?_
  refine yr9 [2, 9, 10, 61, 62, 63, 12, 13, 15] (by simp [xr9, uw9, getF, putF]; rfl) ?_
  rw [hl1]
  have hp0 : wd9 d m.recs = (p.1, 0) := by rw [hpe, ← c]
  obtain ⟨hb1, hb2, hb3, hb4⟩ := block_le hp0
  obtain ⟨H2, hH2⟩ : ∃ H2, H1 ++ [AObj.cells 55 [.v (.int .i64 0), .v (.int .i64 0)]] = H2 := ⟨_, rfl⟩
  rw [hH2]
  have hX : H ++ [AObj.cells 27 [.v (.string ⟨m.name.toArray⟩), .lst .any 1 (bbL m.recs)], .cells 55 [.v (.int .i64 0), .v (.int .i64 0)]] = H2 := by rw [← hH2, ← hH1]; simp
  have ts2 := ts.app [AObj.cells 27 [.v (.string ⟨m.name.toArray⟩), .lst .any 1 (bbL m.recs)], .cells 55 [.v (.int .i64 0), .v (.int .i64 0)]] (by simp [yb9, AObj.under, AV.under, AV.underL])
  rw [hX] at ts2
  have hm2 : H2[h]? = some (.cells 27 [.v (.string ⟨m.name.toArray⟩), .lst .any 1 (bbL m.recs)]) := by rw [← hX, ← hh]; simp
  have hb2' : H2[h + 1]? = some (.cells 55 [.v (.int .i64 0), .v (.int .i64 0)]) := by rw [← hX, ← hh]; simp
  have hl2 : H2.length = h + 2 := by rw [← hX, ← hh]; simp
  have hTi := (List.getElem?_eq_some_iff.1 ts.obj).1
  have he2 : EntO H2 e l := by
   rcases he with he | ⟨idE, capE, csE, h1, h2, h3⟩
   ·exact .inl he
   ·exact .inr ⟨idE, capE, csE, h1, by rw [← hX, List.getElem?_append_left (List.getElem?_eq_some_iff.1 h2).1]; exact h2, h3⟩
  have hw := write_callW T N p.1 hTv (fun b hb => (hb4 b hb).2) (by omega) (by omega) (by omega) H2 ts2.shut idT cap cs ts2.obj ts2.rc ts2.kl ts2.cap
  obtain ⟨W, hW⟩ : ∃ W, wrE N T p.1 = W := ⟨_, rfl⟩
  rw [hW] at hw hwp hQ
  obtain ⟨rn, hrn⟩ : ∃ rn : Nat, W.2.2 = (rn : Int) := ⟨W.2.2.toNat, by have := hwp.2.2.1; omega⟩
  rw [hrn] at hw hQ
  rw [show ((rn : Nat) : Int).toNat = rn by simp] at hQ
  refine uf9 (fun s => ∃ H3 idT' cap' cs', TkS (vj9 d rs ms) n H3 e idT' cap' W.1 cs' ∧ EntO H3 e l ∧ H3[h]? = some (.cells 27 [.v (.string ⟨m.name.toArray⟩), .lst .any 1 (bbL m.recs)]) ∧ H3[h + 1]? = some (.cells 55 [.v (.int .i64 (W.2.1 : Nat)), .v (.int .i64 (rn : Nat))]) ∧
   s = ⟨102, [(2, .loc 0 0), (9, .loc 2 0), (10, .arr idT' 0 W.1.length cap'), (61, .lst .any 2 (meL ms)), (62, .v (.int .i64 (ms.length : Nat))), (63, .v (.int .i64 (i : Nat))), (12, .loc h 0), (15, .loc (h + 1) 0)], H3⟩) ?_ ?_
  ·have fin : ∀ h' id' cap' cs', WS H2 idT h' id' cap' W.1 cs' → ∃ H3 idT' cap'' cs'', TkS (vj9 d rs ms) n H3 e idT' cap'' W.1 cs'' ∧ EntO H3 e l ∧ H3[h]? = some (.cells 27 [.v (.string ⟨m.name.toArray⟩), .lst .any 1 (bbL m.recs)]) ∧ H3[h + 1]? = some (.cells 55 [.v (.int .i64 (W.2.1 : Nat)), .v (.int .i64 (rn : Nat))]) ∧
     (⟨102, [(2, .loc 0 0), (9, .loc 2 0), (10, .arr id' 0 W.1.length cap'), (61, .lst .any 2 (meL ms)), (62, .v (.int .i64 (ms.length : Nat))), (63, .v (.int .i64 (i : Nat))), (12, .loc h 0), (15, .loc (h + 1) 0)], h'.set (h + 1) (.cells 55 [.v (.int .i64 (W.2.1 : Nat)), .v (.int .i64 (rn : Nat))])⟩ : St) = ⟨102, [(2, .loc 0 0), (9, .loc 2 0), (10, .arr idT' 0 W.1.length cap''), (61, .lst .any 2 (meL ms)), (62, .v (.int .i64 (ms.length : Nat))), (63, .v (.int .i64 (i : Nat))), (12, .loc h 0), (15, .loc (h + 1) 0)], H3⟩ := by
    intro h' id' cap' cs' ws
    have hTne : ∀ (j : Nat) o, H2[j]? = some o → (∀ cs, o ≠ .cells 80 cs) → j ≠ idT := by
     intro j o ho hn hj
     rw [hj, ts2.obj] at ho
     exact hn cs (Option.some.inj ho).symm
    have hwl := ws.len
    have ht1 : TkS (vj9 d rs ms) n h' e id' cap' W.1 cs' := by
     refine ⟨ws.shut, ws.old 0 _ (hTne 0 _ ts2.c0 (by simp)) ts2.c0 fun T => ?_, ws.old 2 _ (hTne 2 _ ts2.d2 (by simp)) ts2.d2 fun T => ?_, ws.obj, ws.rc, ws.kl, ws.cap⟩
     ·simp [vj9, AObj.kill, AV.killL, AV.kill]
     ·rcases he with ⟨rfl, _⟩ | ⟨idE, capE, csE, rfl, _, _⟩ <;> simp [AObj.kill, AV.killL, AV.kill]
    have hid' : h + 1 ≠ id' := by
     intro hc
     have h1 := ws.obj
     rw [← hc, ws.old (h + 1) _ (hTne _ _ hb2' (by simp)) hb2' (fun T => by simp [AObj.kill, AV.killL, AV.kill])] at h1
     cases h1
    refine ⟨_, id', cap', cs', ht1.setE (by omega) (by omega) hid' (by simp [AObj.under, AV.under, AV.underL]), ?_, ?_, ?_, rfl⟩
    ·rcases he2 with he2 | ⟨idE, capE, csE, h1, h2, h3⟩
     ·exact .inl he2
     ·refine .inr ⟨idE, capE, csE, h1, ?_, h3⟩
      have hne : h + 1 ≠ idE := by intro hc; rw [← hc, hb2'] at h2; cases h2
      rw [List.getElem?_set_ne hne]
      exact ws.old idE _ (hTne _ _ h2 (by simp)) h2 (fun T => by simp only [AObj.kill, killL_vals h3.v])
    ·rw [List.getElem?_set_ne (by omega)]
     exact ws.old h _ (hTne _ _ hm2 (by simp)) hm2 (fun T => by simp [AObj.kill, AV.killL, AV.kill])
    ·rw [List.getElem?_set_self (by omega)]
   have hbx : ∀ h' id' cap' cs', WS H2 idT h' id' cap' W.1 cs' → h'[h + 1]? = some (.cells 55 [.v (.int .i64 0), .v (.int .i64 0)]) := by
    intro h' id' cap' cs' ws
    refine ws.old (h + 1) _ ?_ hb2' (fun T => by simp [AObj.kill, AV.killL, AV.kill])
    intro hj
    rw [hj, ts2.obj] at hb2'
    cases hb2'
   have hdd := ts2.d2
   rcases he2 with ⟨rfl, rfl⟩ | ⟨idE, capE, csE, rfl, hEo, hEc⟩
   ·have htr := vn9 [] n (by omega)
    rw [hN] at htr
    refine W_rE [2, 9, 10, 61, 62, 63, 12, 15] ?_
    refine yq9 2 (by simp [hdd]; rfl) rfl ?_
    refine yf9 (by simp) (by first | (simp; done) | (simp; rfl)) htr (by simp; rfl) ?_
    refine yq9 1 (by simp; rfl) rfl ?_
    refine zm9 (f := 36) (args := [.arr idT 0 T.length cap, .v (.int .i64 (N : Nat)), .lst .any 1 (bbL p.1)]) (by simp) (by simp [xn9, zc9]) (hw.mono ?_)
    rintro r h' ⟨id', cap', cs', ws, rfl⟩
    have hbx' := hbx _ _ _ _ ws
    refine ⟨_, by simp; rfl, ?_⟩
    refine yw9 (by simp [hbx', yg9]; rfl) ?_
    exact fin _ _ _ _ ws
   ·have htr := tracks_callW n (by omega) H2 ts2.shut idE l.length capE
    rw [hN] at htr
    refine W_rE [2, 9, 10, 61, 62, 63, 12, 15] ?_
    refine yq9 2 (by simp [hdd]; rfl) rfl ?_
    refine zm9 (f := 38) (args := [.agg [.arr idE 0 l.length capE, .v (.int .i64 (n : Nat))]]) (by simp) (by simp [xn9, zc9]) (htr.mono ?_)
    rintro r h' ⟨rfl, rfl⟩
    refine ⟨_, by simp; rfl, ?_⟩
    refine yq9 1 (by simp; rfl) rfl ?_
    refine zm9 (f := 36) (args := [.arr idT 0 T.length cap, .v (.int .i64 (N : Nat)), .lst .any 1 (bbL p.1)]) (by simp) (by simp [xn9, zc9]) (hw.mono ?_)
    rintro r h' ⟨id', cap', cs', ws, rfl⟩
    have hbx' := hbx _ _ _ _ ws
    refine ⟨_, by simp; rfl, ?_⟩
    refine yw9 (by simp [hbx', yg9]; rfl) ?_
    exact fin _ _ _ _ ws
  rintro _ ⟨H3, idT', cap', cs', ts3, he3, hm3, hp3, rfl⟩
  have hdd := ts3.d2
  have hs3 := ts3.shut
  have hl3 := ts3.lt
  have close : ∀ H4 e', TkS (vj9 d rs ms) n H4 e idT' cap' W.1 cs' → e'.under H4.length = true → EntO H4 e' (insE l ⟨padK m.name, W.2.1, rn⟩) →
    Q .normal ⟨102, [(2, .loc 0 0), (9, .loc 2 0), (10, .arr idT' 0 W.1.length cap'), (61, .lst .any 2 (meL ms)), (62, .v (.int .i64 (ms.length : Nat))), (63, .v (.int .i64 (i : Nat)))], H4.set 2 (.cells 70 [e', .v (.int .i64 (n : Nat))])⟩ := by
   intro H4 e' ts4 hu he4
   refine hQ c _ e' idT' cap' cs' (ts4.fin hu) ?_
   rcases he4 with he4 | ⟨idE, capE, csE, h1, h2, h3⟩
   ·exact .inl he4
   ·refine .inr ⟨idE, capE, csE, h1, ?_, h3⟩
    rw [List.getElem?_set_ne]
    ·exact h2
    ·intro hc
     rw [← hc, ts4.d2] at h2
     cases h2
  rcases he3 with ⟨rfl, rfl⟩ | ⟨idE, capE, csE, rfl, hEo, hEc⟩
  ·have hwi := with_nil_callW n W.2.1 rn m.name hs H3 hs3
   refine W_rE [2, 9, 10, 61, 62, 63] ?_
   refine yq9 4 (by simp [hdd, hm3, hp3]; rfl) rfl ?_
   refine zm9 (f := 39) (args := [.agg [.lst .nil 10 [], .v (.int .i64 (n : Nat))], strB m.name, .agg [.v (.int .i64 (W.2.1 : Nat)), .v (.int .i64 (rn : Nat))]]) (by simp) (by simp [xn9, zc9]; rfl) (hwi.mono ?_)
   rintro r h' ⟨cap2, cs2, hE2, g0, g1, g2, g3, g4, hg, rfl, rfl⟩
   have ts4 := ts3.app [g0, g1, g2, g3, g4, .cells 78 cs2] (under6 hg hE2.v)
   have hd4 := ts4.d2
   have hE4 : (H3 ++ [g0, g1, g2, g3, g4, AObj.cells 78 cs2])[H3.length + 5]? = some (.cells 78 cs2) := by simp
   obtain ⟨H4, hH4⟩ : ∃ H4, H3 ++ [g0, g1, g2, g3, g4, AObj.cells 78 cs2] = H4 := ⟨_, rfl⟩
   have hl4 : H4.length = H3.length + 6 := by rw [← hH4]; simp
   rw [hH4] at ts4 hd4 hE4 ⊢
   refine ⟨_, by simp; rfl, ?_⟩
   refine yw9 (by simp [hd4, yg9]; rfl) ?_
   refine close H4 (.arr (H3.length + 5) 0 1 cap2) ts4 (by simp [AV.under]; omega) ?_
   rw [insE_nil]
   exact .inr ⟨_, cap2, cs2, rfl, hE4, hE2⟩
  ·have hwi := with_callW l n W.2.1 rn m.name hs hp h8 (by omega) H3 hs3 idE capE csE hEo hEc
   refine W_rE [2, 9, 10, 61, 62, 63] ?_
   refine yq9 4 (by simp [hdd, hm3, hp3]; rfl) rfl ?_
   refine zm9 (f := 39) (args := [.agg [.arr idE 0 l.length capE, .v (.int .i64 (n : Nat))], strB m.name, .agg [.v (.int .i64 (W.2.1 : Nat)), .v (.int .i64 (rn : Nat))]]) (by simp) (by simp [xn9, zc9]; rfl) (hwi.mono ?_)
   rintro r h' ⟨cap2, cs2, hE2, ⟨rfl, rfl⟩ | ⟨g0, g1, g2, g3, g4, hg, rfl, rfl⟩⟩
   ·have hEl := (List.getElem?_eq_some_iff.1 hEo).1
    have n0 : idE ≠ 0 := by intro hc; rw [hc, ts3.c0] at hEo; cases hEo
    have n2 : idE ≠ 2 := by intro hc; rw [hc, ts3.d2] at hEo; cases hEo
    have nt : idE ≠ idT' := by intro hc; rw [hc, ts3.obj] at hEo; cases hEo
    have ts4 := ts3.setE (o := .cells 78 cs2) n0 n2 nt (by simp [AObj.under, wq9 hE2.v])
    have hd4 := ts4.d2
    have hE4 : (H3.set idE (.cells 78 cs2))[idE]? = some (.cells 78 cs2) := by rw [List.getElem?_set_self hEl]
    obtain ⟨H4, hH4⟩ : ∃ H4, H3.set idE (.cells 78 cs2) = H4 := ⟨_, rfl⟩
    have hl4 : H4.length = H3.length := by rw [← hH4]; simp
    rw [hH4] at ts4 hd4 hE4 ⊢
    refine ⟨_, by simp; rfl, ?_⟩
    refine yw9 (by simp [hd4, yg9]; rfl) ?_
    refine close H4 (.arr idE 0 _ cap2) ts4 (by simp [AV.under]; omega) ?_
    exact .inr ⟨idE, cap2, cs2, rfl, hE4, hE2⟩
   ·have ts4 := ts3.app [g0, g1, g2, g3, g4, .cells 78 cs2] (under6 hg hE2.v)
    have hd4 := ts4.d2
    have hE4 : (H3 ++ [g0, g1, g2, g3, g4, AObj.cells 78 cs2])[H3.length + 5]? = some (.cells 78 cs2) := by simp
    obtain ⟨H4, hH4⟩ : ∃ H4, H3 ++ [g0, g1, g2, g3, g4, AObj.cells 78 cs2] = H4 := ⟨_, rfl⟩
    have hl4 : H4.length = H3.length + 6 := by rw [← hH4]; simp
    rw [hH4] at ts4 hd4 hE4 ⊢
    refine ⟨_, by simp; rfl, ?_⟩
    refine yw9 (by simp [hd4, yg9]; rfl) ?_
    refine close H4 (.arr (H3.length + 5) 0 _ cap2) ts4 (by simp [AV.under]; omega) ?_
    exact .inr ⟨_, cap2, cs2, rfl, hE4, hE2⟩
 ·have c2 : (p.2 != 0) = true := by simpa using c
  refine yr9 [2, 9, 10, 61, 62, 63, 12, 13, 14, 76] (by simp [c, c2]; rfl) ?_
  refine yt9 (t := true) rfl (fun h => ?_) (fun h => by simp at h)
  refine yr9 [4, 5] (by simp; rfl) ?_
  refine yk9 ?_
  repeat (first | refine ys9 ?_ | refine yd9 ?_)
  exact hbad _ c
end Go.AM
namespace Go.AM
open Go.RowKit Go.Proofs
set_option linter.unusedSimpArgs false
set_option linter.unusedVariables false
set_option maxHeartbeats 8000000
set_option maxRecDepth 20000
theorem ret_err {H : List AObj} {e : Int} : retU Tryz.prog [.tmp 4, .tmp 5] (resT ([], e)) .ret ⟨102, [(4, .lst .nil 1 []), (5, .v (.int .i64 e))], H⟩ :=
 ⟨.tup [.lst .nil 1 [], .v (.int .i64 e)], by simp [retQ], .tup2 (.nil (by decide +kernel)) (.refl _)⟩
theorem all_take {ms : List ME} {i : Nat} {m : ME} (h : ms[i]? = some m) : (ms.take (i + 1)).all (fun m => symM m.name) = ((ms.take i).all (fun m => symM m.name) && symM m.name) := by
 rw [List.take_add_one, h]
 simp [List.all_append]
theorem keysN_take {ms : List ME} {i : Nat} {m : ME} (h : ms[i]? = some m) : keysN ((ms.map (·.name)).take (i + 1)) = addN (keysN ((ms.map (·.name)).take i)) m.name := by
 rw [List.take_add_one, List.getElem?_map, h]
 simp [keysN, List.foldl_append]
noncomputable def tkN : Code := sq2 (sq2 (sq2 (sq2 (Tryz.f14.body.getD .skip))))
theorem tk_names {d : Dcb} {rs : List (List UInt8)} {ms : List ME} {n : Int} (hl : ms.length ≤ 1000000000) (hm : ∀ m ∈ ms, m.name.length ≤ 1000000000)
  {Q : Exit → St → Prop} (hbad : ∀ H', ms.all (fun m => symM m.name) = false → Q .ret ⟨102, [(4, .lst .nil 1 []), (5, .v (.int .i64 5))], H'⟩)
  (hQ : ms.all (fun m => symM m.name) = true → Q .normal ⟨102, [(1, .v (.int .i64 n)), (2, .loc 0 0), (6, .mp 1)], [.cells 42 (vj9 d rs ms), .map (namE (keysN (ms.map (·.name))))]⟩) :
  Wt true 0 Tryz.prog (sq1 tkN) Q ⟨102, [(1, .v (.int .i64 n)), (2, .loc 0 0), (6, .mp 1)], [.cells 42 (vj9 d rs ms), .map []]⟩ := by
 unfold vj9
 refine yr9 [1, 2, 6, 28, 29, 30] (by simp; rfl) ?_
 refine yl9 ?_
 refine zg9 (fun k s => ∃ i : Nat, k = ms.length - i ∧ i ≤ ms.length ∧ (ms.take i).all (fun m => symM m.name) = true ∧
  s = ⟨102, [(1, .v (.int .i64 n)), (2, .loc 0 0), (6, .mp 1), (28, .lst .any 2 (meL ms)), (29, .v (.int .i64 (ms.length : Nat))), (30, .v (.int .i64 (i : Nat)))], [.cells 42 (vj9 d rs ms), .map (namE (keysN ((ms.map (·.name)).take i)))]⟩) (k := ms.length) ⟨0, rfl, by omega, by simp, by simp [vj9]; rfl⟩ ?_
 rintro k s ⟨i, rfl, hi, hall, rfl⟩
 by_cases c : i < ms.length
 ·have ci : (i : Int) < ms.length := by omega
  obtain ⟨m, hmi⟩ : ∃ m, ms[i]? = some m := ⟨_, List.getElem?_eq_getElem c⟩
  have hme : ms[i]'c = m := (List.getElem?_eq_some_iff.1 hmi).2
  have wi := w64 (n := (i : Int) + 1) (by omega) (by omega)
  have hv := yg8 m.name (by have := hm m (List.mem_of_getElem? hmi); omega)
  unfold strB at hv
  have hat := all_take hmi
  rw [hall, Bool.true_and] at hat
  have hkt := keysN_take hmi
  refine yr9 [1, 2, 6, 28, 29, 30, 31] (by simp [c, ci]; rfl) ?_
  refine yh9 ?_
  refine yt9 (t := true) (by simp [c, ci]) (fun h => ?_) (fun h => by simp at h)
  refine yj9 ?_
  refine yh9 ?_
  refine yl9 ?_
  refine yr9 [1, 2, 6, 28, 29, 30, 8] (by simp [c, ci, hme, meA, strB, yg9]; rfl) ?_
  refine yh9 ?_
  refine W_rK [1, 2, 6, 28, 29, 30, 8, 37] ?_
  refine yq9 2 (by simp; rfl) rfl ?_
  refine yf9 (by simp) (by first | (simp; done) | (simp; rfl)) hv (by simp; rfl) ?_
  refine yw9 (by simp; rfl) ?_
  cases hs : symM m.name with
  | false =>
   refine yt9 (t := true) rfl (fun h => ?_) (fun h => by simp at h)
   refine yr9 [4, 5] (by simp; rfl) ?_
   refine yk9 ?_
   repeat (first | refine ys9 ?_ | refine yd9 ?_)
   refine hbad _ ?_
   rw [List.all_eq_false]
   exact ⟨m, List.mem_of_getElem? hmi, by simp [hs]⟩
  | true =>
   rw [hs] at hat
   have hset := mset_nam m.name (keysN ((ms.map (·.name)).take i))
   obtain ⟨L0, hL0⟩ : ∃ L0, keysN ((ms.map (·.name)).take i) = L0 := ⟨_, rfl⟩
   rw [hL0] at hset hkt
   refine yt9 (t := false) rfl (fun h => by simp at h) (fun h => ?_)
   refine ym9 [1, 2, 6, 28, 29, 30, 8] ?_
   refine yj9 ?_
   repeat (first | refine on_norm ?_ | refine in_norm ?_)
   rw [hL0]
   refine W_rE [1, 2, 6, 28, 29, 30] ?_
   refine yw9 (by simp [jc9, keyOfA, hset, AV.weak]; rfl) ?_
   repeat (first | refine on_norm ?_ | refine in_norm ?_)
   have hent : ∀ l, zb9 2 (namE l) = true := fun l => by induction l <;> simp_all [namE, zb9, AV.under]
   refine ug9 2 (by omega) (by simp) (by simp [xr9, uw9, zj9, AV.under, AV.underL]) (by simp [xr9, yb9, AObj.under, vj9, AV.underL, AV.under, hent]) ?_
   refine zp9 [1, 2, 6, 28, 29, 30] (by simp [wi, xr9]; rfl) ?_
   refine ⟨_, by omega, i + 1, rfl, by omega, hat, ?_⟩
   rw [hkt]
   simp [vj9]
 ·have hie : i = ms.length := by omega
  subst hie
  rw [List.take_length] at hall
  refine yr9 [1, 2, 6, 31] (by simp; rfl) ?_
  refine yh9 ?_
  refine yt9 (t := false) (by simp) (fun h => by simp at h) (fun h => ?_)
  refine ym9 [1, 2, 6] ?_
  refine zd9 ?_
  have hfin : (ms.map (·.name)).take ms.length = ms.map (·.name) := List.take_of_length_le (by simp)
  refine (show Q .normal (xr9 [1, 2, 6] _) from ?_)
  simp only [hfin]
  exact hQ hall
end Go.AM
namespace Go.AM
open Go.RowKit Go.Proofs
set_option linter.unusedSimpArgs false
set_option linter.unusedVariables false
set_option maxHeartbeats 8000000
set_option maxRecDepth 20000
noncomputable def tkT : Code := sq2 (sq2 (sq2 (sq2 tkN)))
theorem pw_ord {l : List RE} (h : ordE l = true) : l.Pairwise ltE := (ordE_iff.1 h).2
theorem wrE_F {F u : List (List Rec)} {N : Nat} (hF : F.length = N) (bs : List (List UInt8)) : wrE N (F ++ u) bs = (F ++ (wrE 0 u bs).1, (N + (wrE 0 u bs).2.1, (wrE 0 u bs).2.2)) := by
 rw [← hF]; exact wrE_front F u bs
theorem tk_store {d : Dcb} {rs : List (List UInt8)} {ms : List ME} {n N : Nat} {L : List (Value × AV)} (hN : (n + 5) / 6 = N) (hn : n ≤ 64) (hml : ms.length ≤ 1344) (hs : ∀ m ∈ ms, symM m.name = true)
  (hr : ∀ m ∈ ms, m.recs.length ≤ 1000000 ∧ ∀ r ∈ m.recs, r.length ≤ 1000000000) (hL : zb9 4 L = true) :
  Wt true 0 Tryz.prog tkT (retU Tryz.prog [.tmp 4, .tmp 5] (resT (ptrR N n (stM d N ms [] [])))) ⟨102, [(2, .loc 0 0), (9, .loc 2 0), (10, .arr 3 0 N N)], [.cells 42 (vj9 d rs ms), .map L, .cells 70 [.lst .nil 10 [], .v (.int .i64 (n : Nat))], .cells 80 (List.replicate N (.lst .nil 4 []))]⟩ := by
 obtain ⟨R, hR⟩ : ∃ R, stM d N ms [] [] = R := ⟨_, rfl⟩
 rw [hR]
 have ts0 : TkS (vj9 d rs ms) n [.cells 42 (vj9 d rs ms), .map L, .cells 70 [.lst .nil 10 [], .v (.int .i64 (n : Nat))], .cells 80 (List.replicate N (.lst .nil 4 []))] (.lst .nil 10 []) 3 N (List.replicate N []) (List.replicate N (.lst .nil 4 [])) := by
  have hrc : RC (List.replicate N []) N (List.replicate N (.lst .nil 4 [])) := by
   have hnl := okLt_nil
   refine ⟨by simp, by simp, fun j t hj => ?_, fun t ht => ?_, fun j h1 h2 => by simp at h1; omega⟩
   ·rw [List.getElem?_replicate] at hj
    split at hj
    ·cases hj
     exact ⟨.lst .nil 4 [], by rw [List.getElem?_replicate, if_pos (by assumption)], .inr hnl⟩
    ·cases hj
   ·have := List.mem_of_getLast? ht
    obtain ⟨h0, rfl⟩ := List.mem_replicate.1 this
    refine ⟨.lst .nil 4 [], ?_, hnl⟩
    rw [List.length_replicate, List.getElem?_replicate, if_pos (by omega)]
  refine ⟨?_, rfl, rfl, rfl, hrc, ?_, by simp only [maxLen]; omega⟩
  ·have hru : ∀ k, AV.underL 4 (List.replicate k (.lst .nil 4 [])) = true := fun k => by induction k <;> simp_all [List.replicate_succ, AV.underL, AV.under]
   simp [yb9, AObj.under, vj9, AV.underL, AV.under, hL, hru]
  ·have : ∀ k, AV.killL 29 (List.replicate k (.lst .nil 4 [])) = List.replicate k (.lst .nil 4 []) := fun k => by induction k <;> simp_all [List.replicate_succ, AV.killL, AV.kill]
   exact this N
 have hF : (List.replicate N ([] : List Rec)).length = N := by simp
 have hFv : ∀ t ∈ List.replicate N ([] : List Rec), vtrk t = true := fun t ht => by rw [(List.mem_replicate.1 ht).2]; exact vtrk_nil
 obtain ⟨F, hFe⟩ : ∃ F, List.replicate N ([] : List Rec) = F := ⟨_, rfl⟩
 rw [hFe] at ts0 hF hFv
 refine yh9 ?_
 have hc0 := ts0.c0
 refine yr9 [2, 9, 10, 61, 62, 63] (by simp [vj9]; rfl) ?_
 refine yl9 ?_
 refine zg9 (fun k s => ∃ (i : Nat) (H : List AObj) (e : AV) (l : List RE) (u : List (List Rec)) (idT cap : Nat) (cs : List AV), k = ms.length - i ∧ i ≤ ms.length ∧ TkS (vj9 d rs ms) n H e idT cap (F ++ u) cs ∧ EntO H e l ∧ stM d N (ms.drop i) u l = R ∧
  ordE l = true ∧ (∀ x ∈ l, x.key.length = 8 ∧ x.trk < 1000000000 ∧ x.rn < 1000000000) ∧ l.length ≤ i ∧ (∀ t ∈ u, vtrk t = true) ∧ u.length ≤ 4100 * i ∧ s = tkSt idT cap n (F ++ u) ms i H) (k := ms.length)
  ⟨0, _, _, [], [], 3, N, _, rfl, by omega, by rw [List.append_nil]; exact ts0, .inl ⟨rfl, rfl⟩, hR, rfl, by simp, by simp, by simp, by simp, by simp [tkSt, vj9, hF]⟩ ?_
 rintro k s ⟨i, H, e, l, u, idT, cap, cs, rfl, hi, ts, he, hgo, hord, hl8, hll, huv, hul, rfl⟩
 have hTv : ∀ t ∈ F ++ u, vtrk t = true := fun t ht => by
  rcases List.mem_append.1 ht with h | h
  ·exact hFv t h
  ·exact huv t h
 by_cases c : i < ms.length
 ·have ci : (i : Int) < ms.length := by omega
  obtain ⟨m, hmi⟩ : ∃ m, ms[i]? = some m := ⟨_, List.getElem?_eq_getElem c⟩
  have hmm := List.mem_of_getElem? hmi
  have hme : ms[i]'c = m := (List.getElem?_eq_some_iff.1 hmi).2
  have wi := w64 (n := (i : Int) + 1) (by omega) (by omega)
  have hdr : ms.drop i = m :: ms.drop (i + 1) := by rw [List.drop_eq_getElem_cons c, hme]
  rw [hdr, stM] at hgo
  have hstep := fun Q => tk_step (Q := Q) ts he hN (by omega) hTv (by rw [List.length_append]; omega) (by rw [List.length_append]; omega) (pw_ord hord) (fun x hx => (hl8 x hx).1) (by omega) hmi (hs m hmm) (hr m hmm).1 (hr m hmm).2
  rw [wrE_F hF] at hstep
  obtain ⟨T, hTe⟩ : ∃ T, F ++ u = T := ⟨_, rfl⟩
  rw [hTe] at hstep ⊢
  unfold tkSt at hstep ⊢
  refine yr9 [2, 9, 10, 61, 62, 63, 64] (by simp [c, ci]; rfl) ?_
  refine yh9 ?_
  refine yt9 (t := true) (by simp [c, ci]) (fun h => ?_) (fun h => by simp at h)
  refine ym9 [2, 9, 10, 61, 62, 63] ?_
  refine yj9 ?_
  refine yh9 ?_
  refine yl9 ?_
  refine hstep _ (fun H' hbad => ?_) fun hok H' e' idT' cap' cs' ts' he' => ?_
  ·rw [if_neg hbad] at hgo
   subst hgo
   exact ret_err
  ·rw [if_pos hok] at hgo
   have hb := block_le (d := d) (l := m.recs) (bs := (wd9 d m.recs).1) (by rw [← hok])
   have hsy := hs m hmm
   have hwp := wrE_place 0 u (wd9 d m.recs).1 (by omega)
   have hwl := wrE_len 0 u (wd9 d m.recs).1
   obtain ⟨W, hW⟩ : ∃ W, wrE 0 u (wd9 d m.recs).1 = W := ⟨_, rfl⟩
   have hwv : ∀ t ∈ W.1, vtrk t = true := by rw [← hW]; exact wrE_validD 0 huv fun b hb' => (hb.2.2.2 b hb').2
   rw [hW] at hgo ts' he' hwl hwp ⊢
   dsimp only at ts' he' ⊢
   have hx8 : (padK m.name).length = 8 := yh8 (uj9 hsy).2.2
   have hil := ins_len (l := l) ⟨padK m.name, N + W.2.1, W.2.2.toNat⟩
   repeat (first | refine on_norm ?_ | refine in_norm ?_)
   refine zp9 [2, 9, 10, 61, 62, 63] (by simp [wi]; rfl) ?_
   refine ⟨_, by omega, i + 1, H', e', _, W.1, idT', cap', cs', rfl, by omega, ts', he', hgo, ord_ins hord (by show symM (nmM (padK m.name)) = true; rw [nmM_padK hsy]; exact hsy), ?_, ?_, hwv, by omega, by simp [tkSt]⟩
   ·intro x hx
    rcases (mem_ins (pw_ord hord) _ x).1 hx with rfl | ⟨hx, _⟩
    ·exact ⟨hx8, by show N + W.2.1 < _; omega, by show W.2.2.toNat < _; omega⟩
    ·exact hl8 x hx
   ·rw [hil]; split <;> omega
 ·have hie : i = ms.length := by omega
  subst hie
  rw [List.drop_length, stM] at hgo
  subst hgo
  have hlay := lay_sound l n (fun x hx => (hl8 x hx).1) (fun x hx => (hl8 x hx).2) (by omega) (by omega)
  have htr := vn9 l n (by omega)
  rw [hN] at htr
  have hFl : (F ++ u).length = N + u.length := by rw [List.length_append, hF]
  have hdrop : (F ++ u).drop N = u := by rw [← hF, List.drop_left]
  have hll2 : (layG l n).length = N := by rw [qd9, hN]
  obtain ⟨T, hTe⟩ : ∃ T, F ++ u = T := ⟨_, rfl⟩
  rw [hTe] at hFl hdrop ts ⊢
  unfold tkSt
  refine yr9 [2, 9, 10, 64] (by simp; rfl) ?_
  refine yh9 ?_
  refine yt9 (t := false) (by simp) (fun h => by simp at h) (fun h => ?_)
  refine ym9 [2, 9, 10] ?_
  refine zd9 ?_
  refine (show Wt true 0 Tryz.prog (sq2 tkT) _ ⟨102, [(2, .loc 0 0), (9, .loc 2 0), (10, .arr idT 0 T.length cap)], H⟩ from ?_)
  refine yh9 ?_
  by_cases c5 : 512 < N + u.length
  ·have c5n : 512 < T.length := by rw [hFl]; exact c5
   have c5i : (512 : Int) < (T.length : Nat) := by omega
   refine yr9 [9, 10, 94] (by simp [c5i, c5n]; rfl) ?_
   refine yt9 (t := true) (by simp [c5i, c5n]) (fun h => ?_) (fun h => by simp at h)
   refine yr9 [4, 5] (by simp; rfl) ?_
   refine yk9 ?_
   repeat (first | refine ys9 ?_ | refine yd9 ?_)
   rw [show ptrR N n (.ok (u, l)) = ([], 200) from by show (if 512 < N + u.length then _ else _) = _; rw [if_pos c5]]
   exact ret_err
  ·have c5n : ¬ 512 < T.length := by rw [hFl]; exact c5
   have c5i : ¬ (512 : Int) < (T.length : Nat) := by omega
   rw [show ptrR N n (.ok (u, l)) = (layG l n ++ u, 0) from by show (if 512 < N + u.length then _ else _) = _; rw [if_neg c5]]
   refine yr9 [9, 10, 94] (by simp [c5i, c5n]; rfl) ?_
   refine yt9 (t := false) (by simp [c5i, c5n]) (fun h => by simp at h) (fun h => ?_)
   refine ym9 [9, 10] ?_
   refine yj9 ?_
   repeat (first | refine on_norm ?_ | refine in_norm ?_)
   refine W_dpB idT (ty := 80) (cs := cs) ts.obj ?_
   have hobj : (H.set idT (.cells 80 (AV.dpL cs)))[idT]? = some (.cells 80 (AV.dpL cs)) := by rw [List.getElem?_set_self (List.getElem?_eq_some_iff.1 ts.obj).1]
   have hd2 : (H.set idT (.cells 80 (AV.dpL cs)))[2]? = some (.cells 70 [e, .v (.int .i64 (n : Nat))]) := by
    rw [List.getElem?_set_ne]
    ·exact ts.d2
    ·intro hc
     have h1 := ts.obj
     rw [hc, ts.d2] at h1
     cases h1
   have he1 : EntO (H.set idT (.cells 80 (AV.dpL cs))) e l := by
    rcases he with he | ⟨idE, capE, csE, h1, h2, h3⟩
    ·exact .inl he
    ·refine .inr ⟨idE, capE, csE, h1, ?_, h3⟩
     rw [List.getElem?_set_ne]
     ·exact h2
     ·intro hc
      rw [← hc, ts.obj] at h2
      cases h2
   obtain ⟨H1, hH1⟩ : ∃ H1, H.set idT (.cells 80 (AV.dpL cs)) = H1 := ⟨_, rfl⟩
   rw [hH1] at hobj hd2 he1
   refine (show Wt true 0 Tryz.prog (sq2 (sq2 tkT)) _ ⟨102, [(9, .loc 2 0), (10, .arr idT 0 T.length cap)], H.set idT (.cells 80 (AV.dpL cs))⟩ from ?_)
   rw [hH1]
   obtain ⟨o, H2, ho, hfz⟩ := frz_rc ts.rc hobj 1
   have hd3 : H2[2]? = some (.cells 70 [e, .v (.int .i64 (n : Nat))]) := by
    rw [yc8 hfz]
    ·exact hd2
    ·intro hc
     rw [← hc, hd2] at hobj
     cases hobj
   have he2 : EntO H2 e l := by
    rcases he1 with he | ⟨idE, capE, csE, h1, h2, h3⟩
    ·exact .inl he
    ·refine .inr ⟨idE, capE, csE, h1, ?_, h3⟩
     rw [yc8 hfz]
     ·exact h2
     ·intro hc
      rw [hc, hobj] at h2
      cases h2
   refine W_frz 10 (tk := 1) rfl rfl hfz ?_
   refine W_any 10 (sz := 1) (xs := arL T) (o := o) rfl ?_
   have hlast : ∀ H3, (∃ x, H3[2]? = some (.cells 70 [x, .v (.int .i64 (n : Nat))]) ∧ (x = .lst .nil 10 [] ∧ l = [] ∨ x = .lst .any 10 (reL l))) →
     Wt true 0 Tryz.prog (sq2 (sq2 tkT)) (retU Tryz.prog [.tmp 4, .tmp 5] (resT (layG l n ++ u, 0))) ⟨102, [(9, .loc 2 0), (10, .lst .any 1 (arL T))], H3⟩ := by
    have hNT : N ≤ T.length := by omega
    have hNTi : (N : Int) ≤ (T.length : Nat) := by omega
    have hda : (arL T).drop N = arL u := by rw [← arL_drop, hdrop]
    have hul2 : u.length ≤ 512 := by omega
    obtain ⟨Y, hY⟩ : ∃ Y, layG l n = Y := ⟨_, rfl⟩
    rw [hY] at hlay hll2 ⊢
    have b1 : (Y.length + u.length) * 24 ≤ 140737488355328 := by omega
    have b2 : 24 * (Y.length + u.length) ≤ 140737488355328 := by omega
    have b3 : (N + u.length) * 24 ≤ 140737488355328 := by omega
    have b4 : 24 * (N + u.length) ≤ 140737488355328 := by omega
    rintro H3 ⟨x, hx2, ⟨rfl, rfl⟩ | rfl⟩
    all_goals
     refine wc9 [4, 5] mx (by decide +kernel) ?_
     refine yp9 1 (by simp [hx2]; rfl) rfl ?_
     refine yv9 (by simp) (by first | (simp; done) | (simp; rfl)) hlay (by simp; rfl) ?_
     refine yp9 2 (by simp [hx2]; rfl) rfl ?_
     refine yv9 (by simp) (by first | (simp; done) | (simp; rfl)) htr (by simp; rfl) ?_
     refine yp9 1 (by simp [hNT, hNTi, hda]; rfl) rfl ?_
     refine yn9 (by simp [catK, AV.cellsK, AV.kone, AV.koneL, b1, b2, b3, b4, hll2]; rfl) ?_
     refine yk9 ?_
     repeat (first | refine ys9 ?_ | refine yd9 ?_)
     rw [← arL_append]
     exact ⟨_, by simp [retQ]; exact ⟨rfl, by simp⟩, .norm fun T => by simp [resT]⟩
   rcases he2 with ⟨rfl, rfl⟩ | ⟨idE, capE, csE, rfl, hEo, hEc⟩
   ·exact hlast _ ⟨_, hd3, .inl ⟨rfl, rfl⟩⟩
   ·have hEi : 2 ≠ idE := by intro hc; rw [← hc, hd3] at hEo; cases hEo
    obtain ⟨o2, H3, hfz2, ho2⟩ := frz_ent hEc (fun x hx => (hl8 x hx).1) hEo 1
    have hd4 : H3[2]? = some (.cells 70 [.arr idE 0 l.length capE, .v (.int .i64 (n : Nat))]) := by rw [yc8 hfz2 hEi]; exact hd3
    refine W_frzP 2 0 (tk := 1) hd3 rfl hEi rfl hfz2 ?_
    exact hlast _ ⟨.lst .any 10 (reL l), by
     rw [List.getElem?_set_self (List.getElem?_eq_some_iff.1 hd4).1]
     rcases ho2 with rfl | rfl <;> simp [AV.plain], .inr rfl⟩
end Go.AM
namespace Go.AM
open Go.RowKit Go.Proofs
set_option linter.unusedSimpArgs false
set_option linter.unusedVariables false
set_option maxHeartbeats 8000000
set_option maxRecDepth 20000
theorem ptracks_sound (d : Dcb) (rs : List (List UInt8)) (ms : List ME) (dir : Int) (hl : ms.length ≤ 1000000000) (hm : ∀ m ∈ ms, m.name.length ≤ 1000000000 ∧ m.recs.length ≤ 1000000 ∧ ∀ r ∈ m.recs, r.length ≤ 1000000000) :
  Sound Tryz.prog 14 [.agg (vj9 d rs ms), .v (.int .i64 dir)] (resT (ptrM d ms dir)) := by
 refine ww9 Tryz.func14 rfl (by decide +kernel) (by simp [Tryz.f14]) (by simp [AV.rfL, AV.rf, vj9]) (by simp [AV.tlL, AV.tl, vj9]) (rs := [.tmp 4, .tmp 5]) rfl ?_
 rw [show Tryz.f14.ntmps = 102 from rfl]
 have hpart := part_sound d
 simp only [dcbA] at hpart
 unfold ptrM
 unfold vj9
 refine yr9 [1, 2] (by simp; rfl) ?_
 refine yh9 ?_
 by_cases c1 : dir < 1 ∨ 64 < dir
 ·rw [if_pos c1]
  rcases c1 with c | c
  ·refine yr9 [1, 2, 21] (by simp [c]; rfl) ?_
   refine yt9 (t := true) rfl (fun h => ?_) (fun h => by simp at h)
   refine yr9 [4, 5] (by simp; rfl) ?_
   refine yk9 ?_
   exact ret_err
  ·have c' : ¬ dir < 1 := by omega
   refine yr9 [1, 2, 21] (by simp [c, c']; rfl) ?_
   refine yt9 (t := true) (by simp [c]) (fun h => ?_) (fun h => by simp at h)
   refine yr9 [4, 5] (by simp; rfl) ?_
   refine yk9 ?_
   exact ret_err
 rw [if_neg c1]
 obtain ⟨n, rfl⟩ : ∃ n : Nat, dir = (n : Int) := ⟨dir.toNat, by omega⟩
 have c2 : ¬ (n : Int) < 1 := by omega
 have c3 : ¬ (64 : Int) < n := by omega
 have c2n : ¬ n < 1 := by omega
 have c3n : ¬ 64 < n := by omega
 refine yr9 [1, 2, 21] (by simp [c2, c3, c2n, c3n]; rfl) ?_
 refine yt9 (t := false) (by simp [c3, c3n]) (fun h => by simp at h) (fun h => ?_)
 refine ym9 [1, 2] ?_
 refine yj9 ?_
 repeat (first | refine on_norm ?_ | refine in_norm ?_)
 refine yh9 ?_
 refine W_rK [1, 2, 25] ?_
 refine yq9 2 (by simp; rfl) rfl ?_
 refine yf9 (by simp) (by first | (simp; done) | (simp; rfl)) hpart (by simp; rfl) ?_
 refine yw9 (by simp; rfl) ?_
 cases hp : partM d with
 | false =>
  rw [if_pos rfl]
  refine yt9 (t := true) rfl (fun h => ?_) (fun h => by simp at h)
  refine yr9 [4, 5] (by simp; rfl) ?_
  refine yk9 ?_
  repeat (first | refine ys9 ?_ | refine yd9 ?_)
  exact ret_err
 | true =>
 rw [if_neg (by simp)]
 refine yt9 (t := false) rfl (fun h => by simp at h) (fun h => ?_)
 refine ym9 [1, 2] ?_
 refine yj9 ?_
 repeat (first | refine on_norm ?_ | refine in_norm ?_)
 refine yr9 [1, 2, 6] (by simp [xr9]; rfl) ?_
 refine W_seqK (fun s => ms.all (fun m => symM m.name) = true ∧ s = ⟨102, [(1, .v (.int .i64 (n : Nat))), (2, .loc 0 0), (6, .mp 1)], [.cells 42 (vj9 d rs ms), .map (namE (keysN (ms.map (·.name))))]⟩) ?_ ?_
 ·have hn := fun Q => tk_names (d := d) (rs := rs) (n := (n : Int)) (Q := Q) hl fun m hm' => (hm m hm').1
  unfold vj9 at hn
  refine hn _ (fun H' hb => ?_) fun hall => ?_
  ·rw [if_pos hb]
   exact ret_err
  ·refine ⟨hall, ?_⟩
   simp [vj9]
 rintro _ ⟨hall, rfl⟩
 rw [if_neg (by simp [hall])]
 obtain ⟨K, hK⟩ : ∃ K, keysN (ms.map (·.name)) = K := ⟨_, rfl⟩
 have hKl := keysN_len (ms.map (·.name))
 rw [List.length_map] at hKl
 rw [hK] at hKl ⊢
 refine yr9 [1, 2, 6, 9] (by simp [yg9]; rfl) ?_
 refine yh9 ?_
 refine yl9 ?_
 refine W_rGK [1, 2, 6, 9, 44] ?_
 refine kt9 1 _ _ ?_
 refine yw9 (by simp; rfl) ?_
 refine runG_W rfl ?_
 refine stepW_mapLen (k := 45) (t := 93) (m := .mp 1) (d := .string) (e := 4) (es := namE K) rfl rfl rfl rfl (by simp) (by simp) (by simp [mapOf]) ?_
 refine ⟨_, by simp; rfl, ?_⟩
 by_cases c4 : K.length < ms.length
 ·rw [if_pos c4]
  have c4i : (K.length : Int) < ms.length := by omega
  refine kt9 5 _ _ ?_
  refine yw9 (by simp [vj9, c4, c4i]; rfl) ?_
  refine yt9 (t := true) (by simp [c4, c4i, runG, xr9]) (fun h => ?_) (fun h => by simp at h)
  refine yr9 [4, 5] (by simp; rfl) ?_
  refine yk9 ?_
  repeat (first | refine ys9 ?_ | refine yd9 ?_)
  exact ret_err
 rw [if_neg c4]
 have c4i : ¬ (K.length : Int) < ms.length := by omega
 refine kt9 5 _ _ ?_
 refine yw9 (by simp [vj9, c4, c4i]; rfl) ?_
 refine yt9 (t := false) (by simp [c4, c4i, runG, xr9]) (fun h => by simp at h) (fun h => ?_)
 have w21 : IntKind.i64.wrap (21 * (n : Int)) = 21 * (n : Int) := w64 (by omega) (by omega)
 refine W_rGK [1, 2, 9, 51] ?_
 refine kt9 1 _ _ ?_
 refine yw9 (by simp [runG, xr9]; rfl) ?_
 refine runG_W rfl ?_
 refine stepW_mapLen (k := 52) (t := 93) (m := .mp 1) (d := .string) (e := 4) (es := namE K) rfl rfl rfl rfl (by simp) (by simp) (by simp [mapOf]) ?_
 refine ⟨_, by simp; rfl, ?_⟩
 by_cases c5 : 21 * (n : Int) < K.length
 ·rw [if_pos c5]
  have c5n : 21 * n < K.length := by omega
  refine kt9 4 _ _ ?_
  refine yw9 (by simp [w21, c5, c5n]; rfl) ?_
  refine yt9 (t := true) (by simp [c5, c5n, runG, xr9]) (fun h => ?_) (fun h => by simp at h)
  refine yr9 [4, 5] (by simp; rfl) ?_
  refine yk9 ?_
  repeat (first | refine ys9 ?_ | refine yd9 ?_)
  exact ret_err
 rw [if_neg c5]
 have c5n : ¬ 21 * n < K.length := by omega
 refine kt9 4 _ _ ?_
 refine yw9 (by simp [w21, c5, c5n]; rfl) ?_
 refine yt9 (t := false) (by simp [c5, c5n, runG, xr9]) (fun h => by simp at h) (fun h => ?_)
 refine ym9 [2, 9] ?_
 refine yj9 ?_
 repeat (first | refine on_norm ?_ | refine in_norm ?_)
 rw [show ((n : Nat) : Int).toNat = n by simp]
 have htr := vn9 [] n (by omega)
 obtain ⟨N, hN⟩ : ∃ N, (n + 5) / 6 = N := ⟨_, rfl⟩
 rw [hN] at htr ⊢
 have hN1 : N ≤ 1000 := by omega
 have hN2 : (N : Int) ≤ 9223372036854775807 := by omega
 have hN3 : N * 24 ≤ 281474976710656 := by omega
 have hms : ms.length ≤ 1344 := by omega
 have hst := tk_store (d := d) (rs := rs) (L := namE K) hN (by omega) hms (fun m hm' => by
  rw [List.all_eq_true] at hall
  exact hall m hm') (fun m hm' => (hm m hm').2) (by
  have : ∀ l, zb9 4 (namE l) = true := fun l => by induction l <;> simp_all [namE, zb9, AV.under]
  exact this K)
 unfold vj9 at hst
 refine W_rK [2, 9, 10] ?_
 refine yq9 1 (by simp [runG, xr9]; rfl) rfl ?_
 refine yf9 (by simp) (by first | (simp; done) | (simp; rfl)) htr (by simp; rfl) ?_
 refine yw9 (by simp [hN1, hN2, hN3, show 24 * (N : Int) ≤ 281474976710656 by omega, show 24 * N ≤ 281474976710656 by omega]; rfl) ?_
 rw [zh8]
 exact hst
end Go.AM
namespace Go.AM
open Go.RowKit Go.Proofs
set_option linter.unusedSimpArgs false
set_option linter.unusedVariables false
set_option maxHeartbeats 8000000
set_option maxRecDepth 100000
def recOf : AV → Option Rec
 | .agg [.v (.int .i64 R), .lst .any 1 k, .lst .any 1 d, .v (.bool b)] => (bytesOf k).bind fun k' => (bytesOf d).map fun d' => ⟨R, k', d', b⟩
 | _ => none
theorem recOf_eq {x : AV} {r : Rec} (h : recOf x = some r) : x = recA r := by
 unfold recOf at h
 split at h
 ·rename_i R k d b
  obtain ⟨k', h1, h⟩ := Option.bind_eq_some_iff.1 h
  obtain ⟨d', h2, rfl⟩ := Option.map_eq_some_iff.1 h
  rw [bytesOf_eq h1, bytesOf_eq h2]
  rfl
 ·cases h
def trOf : List AV → Option (List Rec)
 | [] => some []
 | x :: xs => (recOf x).bind fun r => (trOf xs).map fun l => r :: l
theorem trOf_eq : ∀ {xs : List AV} {l : List Rec}, trOf xs = some l → xs = trL l
 | [], l, h => by simp only [trOf, Option.some.injEq] at h; subst h; rfl
 | x :: xs, l, h => by
  simp only [trOf] at h
  obtain ⟨b, hb, h⟩ := Option.bind_eq_some_iff.1 h
  obtain ⟨l', hl, rfl⟩ := Option.map_eq_some_iff.1 h
  rw [trL_cons, recOf_eq hb, trOf_eq hl]
def arOf : List AV → Option (List (List Rec))
 | [] => some []
 | .lst .any 4 x :: xs => (trOf x).bind fun b => (arOf xs).map fun l => b :: l
 | _ => none
theorem arOf_eq : ∀ {xs : List AV} {l : List (List Rec)}, arOf xs = some l → xs = arL l
 | [], l, h => by simp only [arOf, Option.some.injEq] at h; subst h; rfl
 | x :: xs, l, h => by
  unfold arOf at h
  split at h
  ·rename_i h1; cases h1
  ·rename_i y ys h1
   cases h1
   obtain ⟨b, hb, h⟩ := Option.bind_eq_some_iff.1 h
   obtain ⟨l', hl, rfl⟩ := Option.map_eq_some_iff.1 h
   rw [arL_cons, trOf_eq hb, arOf_eq hl]
  ·cases h
def dcbOf : AV → Option Dcb
 | .agg [.v (.int .i64 a), .v (.int .i64 b), .v (.bool c), .v (.bool d), .v (.int .i64 e), .v (.int .i64 f), .v (.int .i64 g), .v (.int .i64 h)] => some ⟨a, b, c, d, e, f, g, h⟩
 | _ => none
theorem dcbOf_eq {x : AV} {d : Dcb} (h : dcbOf x = some d) : x = dcbA d := by
 unfold dcbOf at h
 split at h
 ·cases h; rfl
 ·cases h
def strOf : AV → Option (List UInt8)
 | .v (.string s) => some s.data.toList
 | _ => none
theorem strOf_eq {x : AV} {s : List UInt8} (h : strOf x = some s) : x = strB s := by
 unfold strOf at h
 split at h
 ·cases h; simp [strB]
 ·cases h
def strsOf : List AV → Option (List (List UInt8))
 | [] => some []
 | x :: xs => (strOf x).bind fun r => (strsOf xs).map fun l => r :: l
theorem strsOf_eq : ∀ {xs : List AV} {l : List (List UInt8)}, strsOf xs = some l → xs = strL l
 | [], l, h => by simp only [strsOf, Option.some.injEq] at h; subst h; rfl
 | x :: xs, l, h => by
  simp only [strsOf] at h
  obtain ⟨b, hb, h⟩ := Option.bind_eq_some_iff.1 h
  obtain ⟨l', hl, rfl⟩ := Option.map_eq_some_iff.1 h
  rw [strOf_eq hb, strsOf_eq hl]
  rfl
def meOf : AV → Option ME
 | .agg [s, .lst .any 1 b] => (strOf s).bind fun n => (bbOf b).map fun l => ⟨n, l⟩
 | _ => none
theorem meOf_eq {x : AV} {m : ME} (h : meOf x = some m) : x = meA m := by
 unfold meOf at h
 split at h
 ·obtain ⟨n, hn, h⟩ := Option.bind_eq_some_iff.1 h
  obtain ⟨l, hl, rfl⟩ := Option.map_eq_some_iff.1 h
  rw [strOf_eq hn, bbOf_eq hl]
  rfl
 ·cases h
def mesOf : List AV → Option (List ME)
 | [] => some []
 | x :: xs => (meOf x).bind fun r => (mesOf xs).map fun l => r :: l
theorem mesOf_eq : ∀ {xs : List AV} {l : List ME}, mesOf xs = some l → xs = meL l
 | [], l, h => by simp only [mesOf, Option.some.injEq] at h; subst h; rfl
 | x :: xs, l, h => by
  simp only [mesOf] at h
  obtain ⟨b, hb, h⟩ := Option.bind_eq_some_iff.1 h
  obtain ⟨l', hl, rfl⟩ := Option.map_eq_some_iff.1 h
  rw [meOf_eq hb, mesOf_eq hl]
  rfl
def bbSm (l : List (List UInt8)) : Bool := decide (l.length ≤ 1000) && l.all fun t => decide (t.length ≤ 1000)
theorem bbSm_spec {l : List (List UInt8)} (h : bbSm l = true) : l.length ≤ 1000 ∧ ∀ t ∈ l, t.length ≤ 1000 := by
 simpa [bbSm] using h
def arSm (a : List (List Rec)) : Bool := decide (a.length ≤ 1000) && decide (a.flatten.length ≤ 1000) && a.all fun t => t.all fun r => decide (r.key.length ≤ 1000) && decide (r.data.length ≤ 1000)
theorem dirT_sub (t : List (List Rec)) : (dirT t).flatten.length ≤ t.flatten.length := by
 conv => rhs; rw [kk9 t]
 rw [List.flatten_append, List.length_append]
 omega
theorem mem_flat_len {t : List (List Rec)} {l : List Rec} (h : l ∈ t) : l.length ≤ t.flatten.length := by
 obtain ⟨a, b, rfl⟩ := List.append_of_mem h
 simp
 omega
theorem arSm_spec {a : List (List Rec)} (h : arSm a = true) : TIn a ∧ a.flatten.length ≤ 1000 := by
 simp only [arSm, Bool.and_eq_true, List.all_eq_true, decide_eq_true_eq] at h
 obtain ⟨⟨h1, h2⟩, h3⟩ := h
 refine ⟨⟨by omega, fun l hl => ?_, ?_, fun l hl r hr => ?_⟩, h2⟩
 ·have := mem_flat_len hl; omega
 ·have := dirT_sub a; omega
 ·have := h3 l hl r hr; omega
def mesSm (l : List ME) : Bool := decide (l.length ≤ 1000) && l.all fun m => decide (m.name.length ≤ 1000) && bbSm m.recs
theorem mesSm_spec {l : List ME} (h : mesSm l = true) : l.length ≤ 1000 ∧ ∀ m ∈ l, m.name.length ≤ 1000 ∧ m.recs.length ≤ 1000 ∧ ∀ r ∈ m.recs, r.length ≤ 1000 := by
 simp only [mesSm, Bool.and_eq_true, List.all_eq_true, decide_eq_true_eq] at h
 exact ⟨h.1, fun m hm => ⟨(h.2 m hm).1, bbSm_spec (h.2 m hm).2⟩⟩
def cmOf : AV → Option (Dcb × List ME)
 | .agg [a, b, c, d, e, f, g, h, .lst .any 1 [], .lst .any 2 m] => (dcbOf (.agg [a, b, c, d, e, f, g, h])).bind fun x => (mesOf m).map fun y => (x, y)
 | _ => none
theorem cmOf_eq {x : AV} {d : Dcb} {ms : List ME} (h : cmOf x = some (d, ms)) : x = .agg (vj9 d [] ms) := by
 unfold cmOf at h
 split at h
 ·obtain ⟨d', hd, h⟩ := Option.bind_eq_some_iff.1 h
  obtain ⟨m', hm, h⟩ := Option.map_eq_some_iff.1 h
  cases h
  have h1 := dcbOf_eq hd
  simp only [dcbA, AV.agg.injEq, List.cons.injEq] at h1
  obtain ⟨rfl, rfl, rfl, rfl, rfl, rfl, rfl, rfl, _⟩ := h1
  rw [mesOf_eq hm]
  rfl
 ·cases h
def kn24 : KnF := fun f args =>
 if f = 14 then match args with
  | [x, .v (.int .i64 n)] => (cmOf x).bind fun c => if mesSm c.2 = true then some (resT (ptrM c.1 c.2 n)) else none
  | _ => none
 else if f = 18 then match args with
  | [.lst .any 1 a] => (arOf a).bind fun A => if arSm A = true then some (.tup [.lst (.tip 9 1) 1 (strL (zl8 A).1), .v (.int .i64 (zl8 A).2)]) else none
  | _ => none
 else if f = 8 then match args with
  | [x, .lst .any 1 a, y] => (dcbOf x).bind fun d => (arOf a).bind fun A => (strOf y).bind fun s => if arSm A = true ∧ s.length ≤ 1000 then some (resB (rdM d A s)) else none
  | _ => none
 else if f = 22 then match args with
  | [.lst .any 1 a, .lst .any 1 b] => (strsOf a).bind fun A => (strsOf b).bind fun B => if A.length ≤ 1000 then some (.v (.bool (decide (A = B)))) else none
  | _ => none
 else if f = 10 then match args with
  | [.lst .any 1 a, .lst .any 1 b] => (bbOf a).bind fun A => (bbOf b).bind fun B => if bbSm A = true then some (.v (.bool (decide (A = B)))) else none
  | _ => none
 else none
theorem kn24_ok : KnOk Tryz.prog kn24 := by
 intro f args r h
 unfold kn24 at h
 split at h
 ·rename_i hf
  subst hf
  split at h
  ·rename_i x n
   obtain ⟨⟨d, ms⟩, hd, h⟩ := Option.bind_eq_some_iff.1 h
   split at h
   ·rename_i hc
    cases h
    obtain ⟨h1, h2⟩ := mesSm_spec hc
    dsimp only at h1 h2 ⊢
    rw [cmOf_eq hd]
    exact ptracks_sound d [] ms n (by omega) fun m hm => ⟨by have := (h2 m hm).1; omega, by have := (h2 m hm).2.1; omega, fun r hr => by have := (h2 m hm).2.2 r hr; omega⟩
   ·cases h
  ·cases h
 split at h
 ·rename_i hf
  subst hf
  split at h
  ·rename_i a
   obtain ⟨A, hA, h⟩ := Option.bind_eq_some_iff.1 h
   split at h
   ·rename_i hc
    cases h
    rw [arOf_eq hA]
    exact Names_sound (arSm_spec hc).1
   ·cases h
  ·cases h
 split at h
 ·rename_i hf
  subst hf
  split at h
  ·rename_i x a y
   obtain ⟨d, hd, h⟩ := Option.bind_eq_some_iff.1 h
   obtain ⟨A, hA, h⟩ := Option.bind_eq_some_iff.1 h
   obtain ⟨s, hs, h⟩ := Option.bind_eq_some_iff.1 h
   split at h
   ·rename_i hc
    cases h
    obtain ⟨h1, h2⟩ := arSm_spec hc.1
    rw [dcbOf_eq hd, arOf_eq hA, strOf_eq hs]
    exact Read_sound d h1 (by omega) s (by omega)
   ·cases h
  ·cases h
 split at h
 ·rename_i hf
  subst hf
  split at h
  ·rename_i a b
   obtain ⟨A, hA, h⟩ := Option.bind_eq_some_iff.1 h
   obtain ⟨B, hB, h⟩ := Option.bind_eq_some_iff.1 h
   split at h
   ·cases h
    rw [strsOf_eq hA, strsOf_eq hB]
    exact sameTexts_sound A B (by omega)
   ·cases h
  ·cases h
 split at h
 ·rename_i hf
  subst hf
  split at h
  ·rename_i a b
   obtain ⟨A, hA, h⟩ := Option.bind_eq_some_iff.1 h
   obtain ⟨B, hB, h⟩ := Option.bind_eq_some_iff.1 h
   split at h
   ·rename_i hc
    cases h
    obtain ⟨h1, h2⟩ := bbSm_spec hc
    rw [bbOf_eq hA, bbOf_eq hB]
    exact srecs_sound A B (by omega) fun x hx => by have := h2 x hx; omega
   ·cases h
  ·cases h
 ·cases h
theorem works24_sound : Sound Tryz.prog 13 [] (.v (.bool true)) := xj8 kn24_ok mx 300 (by kernel_rfl)
end Go.AM
namespace Go.AM
open Go.RowKit Go.Proofs
set_option linter.unusedSimpArgs false
set_option linter.unusedVariables false
set_option maxHeartbeats 8000000
set_option maxRecDepth 20000
def nmS (l : List SE) : List (List UInt8) := l.map (·.name)
theorem pdsFinds_sound (t : List (List Rec)) (ht : TIn t) (hraw : (rawE (dirT t).flatten).length ≤ 1000000) (s : List UInt8) (hs : s.length ≤ 1000000000) : Sound Tryz.prog 5 [.lst .any 1 (arL t), strB s] (.v (.bool true)) := by
 have hlen : (ofM t).1.length ≤ 1000000 ∧ (ofM t).2 ≤ 64 := by
  unfold ofM
  cases he : kg9 t with
  | none => simp
  | some p =>
   obtain ⟨L, n⟩ := p
   have := read_len he
   simp
   omega
 have hof := rof_sound t ht hraw
 have hnam := Names_sound ht
 have hfin := Find_sound ht s hs
 have hrfi := rFind_sound t ht hraw s hlen.1
 have hdir := Dir_sound ht
 rw [rfindM_eq] at hrfi
 have hst := sameTexts_sound (zl8 t).1 (nmS (ofM t).1) (by
  unfold zl8
  cases he : kg9 t with
  | none => simp
  | some p =>
   obtain ⟨L, n⟩ := p
   have := read_len he
   simp
   omega)
 have hpl : ∃ a b X, placeA (ww8 t s) = .agg [.v (.int .i64 a), .v (.int .i64 b)] ∧ seO ((ww8 t s).map nmE) = .agg [.v (.string X), .v (.int .i64 a), .v (.int .i64 b)] := by
  cases ww8 t s with
  | none => exact ⟨_, _, _, rfl, rfl⟩
  | some e => exact ⟨_, _, _, rfl, rfl⟩
 obtain ⟨pa, pb, pX, hp1, hp2⟩ := hpl
 rw [hp1] at hfin
 rw [hp2, Option.isSome_map] at hrfi
 obtain ⟨FB, hFB⟩ : ∃ FB, (ww8 t s).isSome = FB := ⟨_, rfl⟩
 rw [hFB] at hfin hrfi
 have hnm : (zl8 t).1 = nmS (ofM t).1 ∧ dirM t = (ofM t).2 ∧ (((zl8 t).2 = 0 ∧ 0 < (ofM t).2) ∨ ((zl8 t).2 = 5 ∧ (ofM t).2 = 0)) := by
  unfold zl8 ofM nmS dirM
  cases he : kg9 t with
  | none => simp
  | some p =>
   obtain ⟨L, n⟩ := p
   have hri := (read_inv he).n1
   simp [nmE]
   omega
 obtain ⟨hn1, hn2, hn3⟩ := hnm
 rw [decide_eq_true hn1] at hst
 rw [hn2] at hdir
 obtain ⟨N, hN⟩ : ∃ N, zl8 t = N := ⟨_, rfl⟩
 obtain ⟨P, hP⟩ : ∃ P, ofM t = P := ⟨_, rfl⟩
 obtain ⟨l, n⟩ := P
 rw [hN] at hnam hst hn1 hn3
 rw [hP] at hof hst hdir hn1 hn3 hlen
 dsimp only at hof hst hdir hn1 hn3 hlen
 refine yc9 Tryz.func5 rfl (by decide +kernel) (by simp [Tryz.f5]) (by simp [AV.rfL, AV.rf, strB]) (by simp [AV.tlL, AV.tl, strB]) (rs := [.tmp 4]) rfl ?_
 rw [show Tryz.f5.ntmps = 97 from rfl]
 obtain ⟨S, hS⟩ : ∃ S, strB s = S := ⟨_, rfl⟩
 have hSv : ∃ u, S = .v u := ⟨_, hS.symm⟩
 rw [hS] at hfin hrfi ⊢
 obtain ⟨u, rfl⟩ := hSv
 refine yr9 [0, 1] (by simp; rfl) ?_
 refine W_rK [0, 1, 5, 6] ?_
 refine yq9 1 (by simp; rfl) rfl ?_
 refine yf9 (by simp) (by first | (simp; done) | (simp; rfl)) hof (by simp; rfl) ?_
 refine yw9 (by simp; rfl) ?_
 refine yr9 [0, 1, 5, 6, 7] (by simp; rfl) ?_
 refine yh9 ?_
 refine yr9 [0, 1, 5, 6, 7, 8] (by simp; rfl) ?_
 refine yl9 ?_
 refine zg9 (fun k σ => ∃ (i : Nat) (x : AV), k = l.length - i ∧ i ≤ l.length ∧ ((i = 0 ∧ x = .lst .nil 1 []) ∨ x = .lst (.tip 9 67) 1 (strL (nmS (l.take i)))) ∧
  σ = ⟨97, [(0, .lst .any 1 (arL t)), (1, .v u), (5, .lst .any 3 (seL l)), (6, .v (.int .i64 (n : Nat))), (7, x), (8, .v (.int .i64 (i : Nat)))], []⟩) (k := l.length) ⟨0, _, rfl, by omega, .inl ⟨rfl, rfl⟩, by simp⟩ ?_
 rintro k σ ⟨i, x, rfl, hi, hx, rfl⟩
 refine yh9 ?_
 by_cases c : i < l.length
 ·have ci : (i : Int) < l.length := by omega
  obtain ⟨e, he⟩ : ∃ e, l[i]? = some e := ⟨_, List.getElem?_eq_getElem c⟩
  have he2 : l[i]'c = e := (List.getElem?_eq_some_iff.1 he).2
  have wi := w64 (n := (i : Int) + 1) (by omega) (by omega)
  have hsn : strL (nmS (l.take i)) ++ [strB e.name] = strL (nmS (l.take (i + 1))) := by
   rw [List.take_add_one, he]
   simp [strL, nmS]
  unfold strB at hsn
  have hil : (nmS (l.take i)).length = i := by simp [nmS]; omega
  have b1 : (i + 1) * 16 ≤ 140737488355328 := by omega
  have b2 : 16 * (i + 1) ≤ 140737488355328 := by omega
  refine yr9 [0, 1, 5, 6, 7, 8, 23] (by simp [c, ci]; rfl) ?_
  refine yt9 (t := true) (by simp [c, ci]) (fun h => ?_) (fun h => by simp at h)
  refine ym9 [0, 1, 5, 6, 7, 8] ?_
  refine yj9 ?_
  repeat (first | refine on_norm ?_ | refine in_norm ?_)
  refine yh9 ?_
  refine yl9 ?_
  rcases hx with ⟨h0, rfl⟩ | rfl
  ·subst h0
   refine zp9 [0, 1, 5, 6, 7, 8] (by simp [xr9, c, ci, he2, seA, strB, catK, AV.cellsK, AV.kone, AV.koneL]; rfl) ?_
   refine zp9 [0, 1, 5, 6, 7, 8] (by simp [show IntKind.i64.wrap 1 = 1 from by decide]; rfl) ?_
   refine ⟨_, by omega, 0 + 1, _, rfl, by omega, .inr rfl, ?_⟩
   rw [← hsn]
   simp [strL, nmS]
  ·refine zp9 [0, 1, 5, 6, 7, 8] (by simp [xr9, c, ci, he2, seA, strB, catK, AV.cellsK, AV.kone, AV.koneL, hil, b1, b2, hsn]; rfl) ?_
   refine zp9 [0, 1, 5, 6, 7, 8] (by simp [wi]; rfl) ?_
   refine ⟨_, by omega, i + 1, _, rfl, by omega, .inr rfl, by simp⟩
 ·have hie : i = l.length := by omega
  subst hie
  have hx2 : x.dp = .lst .any 1 (strL (nmS l)) := by
   rcases hx with ⟨h0, rfl⟩ | rfl
   ·rw [List.length_eq_zero_iff.1 h0]; rfl
   ·rw [List.take_length]; simp [AV.dp]
  refine yr9 [0, 1, 6, 7, 23] (by simp; rfl) ?_
  refine yt9 (t := false) (by simp) (fun h => by simp at h) (fun h => ?_)
  refine ym9 [0, 1, 6, 7] ?_
  refine zd9 ?_
  refine (show Wt true 0 Tryz.prog _ _ ⟨97, [(0, .lst .any 1 (arL t)), (1, .v u), (6, .v (.int .i64 (n : Nat))), (7, x)], []⟩ from ?_)
  have hx3 : ∀ (code : Code) Q, Wt true 0 Tryz.prog code Q ⟨97, [(0, .lst .any 1 (arL t)), (1, .v u), (6, .v (.int .i64 (n : Nat))), (7, .lst .any 1 (strL (nmS l)))], []⟩ → Wt true 0 Tryz.prog code Q ⟨97, [(0, .lst .any 1 (arL t)), (1, .v u), (6, .v (.int .i64 (n : Nat))), (7, x)], []⟩ := by
   intro code Q h
   rcases hx with ⟨h0, rfl⟩ | rfl
   ·refine W_any 7 (sz := 1) (xs := []) (o := .nil) rfl ?_
    rw [List.length_eq_zero_iff.1 h0] at h
    exact h
   ·rw [List.take_length]
    exact W_any 7 (sz := 1) (xs := strL (nmS l)) (o := .tip 9 67) rfl h
  refine hx3 _ _ ?_
  refine W_rK [0, 1, 6, 7, 9, 10] ?_
  refine yq9 1 (by simp; rfl) rfl ?_
  refine yf9 (by simp) (by first | (simp; done) | (simp; rfl)) hnam (by simp; rfl) ?_
  refine yw9 (by simp; rfl) ?_
  refine W_rK [0, 1, 6, 7, 9, 10, 11, 12] ?_
  refine yq9 2 (by simp; rfl) rfl ?_
  refine yf9 (by simp) (by first | (simp; done) | (simp; rfl)) hfin (by simp; rfl) ?_
  refine yw9 (by simp [yg9]; rfl) ?_
  refine W_rK [0, 6, 7, 9, 10, 11, 12, 13, 14] ?_
  refine yq9 2 (by simp; rfl) rfl ?_
  refine yf9 (by simp) (by first | (simp; done) | (simp; rfl)) hrfi (by simp; rfl) ?_
  refine yw9 (by simp [yg9]; rfl) ?_
  refine W_any 9 (sz := 1) (xs := strL N.1) (o := .tip 9 73) rfl ?_
  rcases hn3 with ⟨e1, e2⟩ | ⟨e1, e2⟩
  ·have e3 : (0 : Int) < n := by omega
   refine W_rK [4] ?_
   refine yq9 1 (by simp [xr9, uw9, getF, putF]; rfl) rfl ?_
   refine yf9 (by simp) (by first | (simp; done) | (simp; rfl)) hdir (by simp; rfl) ?_
   refine yq9 6 (by simp [e1]; rfl) rfl ?_
   refine yq9 6 (by simp [e1, e2, e3]; rfl) rfl ?_
   refine yq9 6 (by simp [e1, e2, e3]; rfl) rfl ?_
   refine yq9 2 (by simp; rfl) rfl ?_
   refine yf9 (by simp) (by first | (simp; done) | (simp; rfl)) hst (by simp; rfl) ?_
   refine yq9 6 (by simp; rfl) rfl ?_
   refine yq9 6 (by simp; rfl) rfl ?_
   refine yq9 6 (by simp; rfl) rfl ?_
   refine yq9 3 (by simp; rfl) rfl ?_
   refine yf9 (by simp) (by first | (simp; done) | (simp; rfl)) works24_sound (by simp; rfl) ?_
   refine yw9 (by simp; rfl) ?_
   refine yk9 ?_
   repeat (first | refine ys9 ?_ | refine yd9 ?_)
   simp [retQ]
  ·have e3 : ¬ (0 : Int) < n := by omega
   refine W_rK [4] ?_
   refine yq9 1 (by simp [xr9, uw9, getF, putF]; rfl) rfl ?_
   refine yf9 (by simp) (by first | (simp; done) | (simp; rfl)) hdir (by simp; rfl) ?_
   refine yq9 6 (by simp [e1]; rfl) rfl ?_
   refine yq9 6 (by simp [e1, e2, e3]; rfl) rfl ?_
   refine yq9 6 (by simp [e1, e2, e3]; rfl) rfl ?_
   refine yq9 2 (by simp; rfl) rfl ?_
   refine yf9 (by simp) (by first | (simp; done) | (simp; rfl)) hst (by simp; rfl) ?_
   refine yq9 6 (by simp; rfl) rfl ?_
   refine yq9 6 (by simp; rfl) rfl ?_
   refine yq9 6 (by simp; rfl) rfl ?_
   refine yq9 3 (by simp; rfl) rfl ?_
   refine yf9 (by simp) (by first | (simp; done) | (simp; rfl)) works24_sound (by simp; rfl) ?_
   refine yw9 (by simp; rfl) ?_
   refine yk9 ?_
   repeat (first | refine ys9 ?_ | refine yd9 ?_)
   simp [retQ]
end Go.AM
namespace Go.AM
open Go.RowKit Go.Proofs
set_option linter.unusedSimpArgs false
set_option linter.unusedVariables false
set_option maxHeartbeats 1000000
set_option maxRecDepth 20000
section
variable {P : Program}
theorem ty_slice {n : Nat} {t e : TypeId} {x : AV} (hu : P.underlying t = some (.slice e)) (h : TyV P (n + 1) t x) : ∃ o l, x = .lst o (P.cellsOf e) l ∧ l.length ≤ maxLen ∧ l.length * P.bytesOf e ≤ 140737488351232 ∧ ∀ y ∈ l, TyV P n e y := by
 rcases h with ⟨h1, _⟩ | ⟨_, h⟩
 ·simp [isSt, hu] at h1
 ·simp only [TyC, hu] at h
  obtain ⟨o, l, hl, hmax, _, _, hx⟩ := h
  simp only [List.cons.injEq, and_true] at hl
  exact ⟨o, l, hl, hmax.1, hmax.2, hx⟩
theorem dpL_choose {β : Type} {F : β → AV} {Q : β → Prop} : ∀ {l : List AV}, (∀ y ∈ l, ∃ b, y.dp = F b ∧ Q b) → ∃ bs : List β, AV.dpL l = bs.map F ∧ bs.length = l.length ∧ ∀ b ∈ bs, Q b
 | [], _ => ⟨[], rfl, rfl, by simp⟩
 | y :: l, h => by
  obtain ⟨b, h1, h2⟩ := h y (by simp)
  obtain ⟨bs, k1, k2, k3⟩ := dpL_choose (l := l) fun y hy => h y (by simp [hy])
  refine ⟨b :: bs, by simp [AV.dpL, h1, k1], by simp [k2], fun c hc => ?_⟩
  rcases List.mem_cons.1 hc with rfl | hc
  ·exact h2
  ·exact k3 c hc
end
theorem un_3 : Tryz.prog.underlying 3 = some (.int .i64) := by kernel_rfl
theorem un_4 : Tryz.prog.underlying 4 = some .bool := by kernel_rfl
theorem un_5 : Tryz.prog.underlying 5 = some (.int .u8) := by kernel_rfl
theorem un_47 : Tryz.prog.underlying 90 = some (.slice 5) := by kernel_rfl
theorem ce5 : Tryz.prog.cellsOf 5 = 1 := by kernel_rfl
theorem min64 : IntKind.i64.min = -9223372036854775808 := by decide +kernel
theorem max64 : IntKind.i64.max = 9223372036854775807 := by decide +kernel
end Go.AM
namespace Go.AM
open Go.RowKit Go.Proofs
set_option linter.unusedSimpArgs false
set_option linter.unusedVariables false
set_option maxHeartbeats 1000000
set_option maxRecDepth 20000
def recOk (r : Rec) : Prop := -9223372036854775808 ≤ r.R ∧ r.R ≤ 9223372036854775807 ∧ r.key.length ≤ 140737488351232 ∧ r.data.length ≤ 140737488351232
theorem un_26 : Tryz.prog.underlying 24 = some (.slice 80) := by kernel_rfl
theorem un_46 : Tryz.prog.underlying 80 = some (.slice 100) := by kernel_rfl
theorem ce46 : Tryz.prog.cellsOf 80 = 1 := by kernel_rfl
theorem ce49 : Tryz.prog.cellsOf 100 = 4 := by kernel_rfl
theorem be5 : Tryz.prog.bytesOf 5 = 1 := by kernel_rfl
theorem fl49 : flds Tryz.prog 100 = some [(3, 0, 1), (90, 1, 1), (90, 2, 1), (4, 3, 1)] := by kernel_rfl
theorem ty_rec {n : Nat} {x : AV} (h : TyV Tryz.prog (n + 3) 100 x) : ∃ r : Rec, x.dp = recA r ∧ recOk r := by
 obtain ⟨ys, rfl, hl, hf⟩ := ty_struct fl49 ce49 h
 match ys, hl, hf with
 | [a, b, c, d], _, hf =>
  obtain ⟨m, rfl, h1, h2⟩ := ty_int un_3 (ty_fld (by kernel_rfl) (hf (3, 0, 1) (by simp)))
  obtain ⟨o, l, rfl, _, h3⟩ := ty_bytes un_47 un_5 ce5 (ty_fld (by kernel_rfl) (hf (90, 1, 1) (by simp)))
  obtain ⟨o', l', rfl, _, h4⟩ := ty_bytes un_47 un_5 ce5 (ty_fld (by kernel_rfl) (hf (90, 2, 1) (by simp)))
  obtain ⟨q, rfl⟩ := ty_bool un_4 (ty_fld (by kernel_rfl) (hf (4, 3, 1) (by simp)))
  rw [min64] at h1
  rw [max64] at h2
  rw [be5, Nat.mul_one] at h3 h4
  refine ⟨⟨m, l, l', q⟩, ?_, h1, h2, h3, h4⟩
  have e : ∀ l : List UInt8, AV.dpL (l.map fun b : UInt8 => AV.v (.int .u8 b.toNat)) = byL l := fun l => dpL_byL l
  simp [AV.dp, AV.dpL, e, recA]
theorem ty_track {n : Nat} {x : AV} (h : TyV Tryz.prog (n + 4) 80 x) : ∃ t : List Rec, x.dp = .lst .any 4 (trL t) ∧ t.length ≤ maxLen ∧ ∀ r ∈ t, recOk r := by
 obtain ⟨o, l, rfl, hl, _, hy⟩ := ty_slice un_46 h
 obtain ⟨bs, h1, h2, h3⟩ := dpL_choose (F := recA) (Q := recOk) fun y hm => ty_rec (hy y hm)
 exact ⟨bs, by simp only [AV.dp, h1, ce49]; rfl, by rw [h2]; exact hl, h3⟩
theorem ty_area {n : Nat} {x : AV} (h : TyV Tryz.prog (n + 5) 24 x) : ∃ a : List (List Rec), x.dp = .lst .any 1 (arL a) ∧ a.length ≤ maxLen ∧ ∀ t ∈ a, t.length ≤ maxLen ∧ ∀ r ∈ t, recOk r := by
 obtain ⟨o, l, rfl, hl, _, hy⟩ := ty_slice un_26 h
 obtain ⟨bs, h1, h2, h3⟩ := dpL_choose (F := fun t => AV.lst .any 4 (trL t)) (Q := fun t => t.length ≤ maxLen ∧ ∀ r ∈ t, recOk r) fun y hm => ty_track (hy y hm)
 exact ⟨bs, by simp only [AV.dp, h1, ce46]; rfl, by rw [h2]; exact hl, h3⟩
end Go.AM
namespace Go.AM
open Go.RowKit Go.Proofs
set_option linter.unusedSimpArgs false
set_option linter.unusedVariables false
set_option maxHeartbeats 2000000
set_option maxRecDepth 20000
theorem un_9 : Tryz.prog.underlying 9 = some .string := by kernel_rfl
theorem ty_string24 {n : Nat} {t : TypeId} {x : AV} (hu : Tryz.prog.underlying t = some .string) (h : TyV Tryz.prog (n + 1) t x) : ∃ l : List UInt8, x = strB l := by
 rcases h with ⟨h1, _⟩ | ⟨_, h⟩
 ·simp [isSt, hu] at h1
 ·simp only [TyC, hu] at h
  obtain ⟨s, hs, hl⟩ := h
  simp only [List.cons.injEq, and_true] at hs
  exact ⟨s.data.toList, by rw [hs]; simp [strB]⟩
theorem blk_byL (l : List UInt8) : AV.blkL (byL l) = l.length := by induction l <;> simp_all [xq9, AV.blkL, AV.blk]; omega
def recN (r : Rec) : Nat := 4 + r.key.length + r.data.length
theorem blk_trL : ∀ t : List Rec, AV.blkL (trL t) = (t.map recN).sum
 | [] => rfl
 | r :: t => by
  rw [trL_cons, AV.blkL, blk_trL t]
  simp only [recA, AV.blk, AV.blkL, blk_byL, List.map_cons, List.sum_cons, recN]
  omega
theorem blk_arL : ∀ t : List (List Rec), AV.blkL (arL t) = t.length + (t.flatten.map recN).sum
 | [] => rfl
 | l :: t => by
  rw [arL_cons, AV.blkL, AV.blk, blk_trL, blk_arL t]
  simp only [List.length_cons, List.flatten_cons, List.map_append, List.sum_append]
  omega
theorem sum_mem {f : Rec → Nat} : ∀ {l : List Rec} {r : Rec}, r ∈ l → f r ≤ (l.map f).sum
 | q :: l, r, h => by
  simp only [List.map_cons, List.sum_cons]
  rcases List.mem_cons.1 h with rfl | h
  ·omega
  ·have := sum_mem (f := f) h; omega
theorem sum_len : ∀ l : List Rec, 4 * l.length ≤ (l.map recN).sum
 | [] => by simp
 | r :: l => by
  have := sum_len l
  simp only [List.map_cons, List.sum_cons, List.length_cons, recN]
  omega
theorem raw_sum : ∀ l : List Rec, (rawE l).length ≤ (l.map recN).sum
 | [] => by simp [rawE]
 | r :: l => by
  have := raw_sum l
  have h1 : (zq8 r.data).length ≤ r.data.length := by
   unfold zq8 limE
   simp
   omega
  have e : rawE (r :: l) = zq8 r.data ++ rawE l := by simp [rawE]
  rw [e]
  simp only [List.map_cons, List.sum_cons, List.length_append, recN]
  omega
theorem blk_area {t : List (List Rec)} {N : Nat} (h : AV.blkL (arL t) ≤ N) (hN : N ≤ 1048576) : TIn t ∧ t.flatten.length ≤ 262144 ∧ (rawE (dirT t).flatten).length ≤ 1000000 ∧ t.length ≤ 1048576 ∧ ∀ l ∈ t, ∀ r ∈ l, r.key.length ≤ 1048576 ∧ r.data.length ≤ 1048576 := by
 rw [blk_arL] at h
 have h1 := sum_len t.flatten
 have h2 : (dirT t).flatten.length ≤ t.flatten.length := by
  conv => rhs; rw [kk9 t]
  rw [List.flatten_append, List.length_append]
  omega
 have h3 : ((dirT t).flatten.map recN).sum ≤ (t.flatten.map recN).sum := by
  conv => rhs; rw [kk9 t]
  rw [List.flatten_append, List.map_append, List.sum_append]
  omega
 have h4 := raw_sum (dirT t).flatten
 have h5 : ∀ l ∈ t, ∀ r ∈ l, r.key.length ≤ 1048576 ∧ r.data.length ≤ 1048576 := by
  intro l hl r hr
  have := sum_mem (f := recN) (List.mem_flatten.2 ⟨l, hl, hr⟩)
  have hq : recN r = 4 + r.key.length + r.data.length := rfl
  omega
 have h6 : ∀ l ∈ t, l.length ≤ 262144 := by
  intro l hl
  have : l.length ≤ t.flatten.length := by
   obtain ⟨a, b, rfl⟩ := List.append_of_mem hl
   simp
   omega
  omega
 have h7 : ∀ l : List Rec, 12 * (rawE l).length ≤ (l.map recN).sum := by
  intro l
  induction l with
  | nil => simp [rawE]
  | cons r l ih =>
   have e : rawE (r :: l) = zq8 r.data ++ rawE l := by simp [rawE]
   have h1 : 12 * (zq8 r.data).length ≤ r.data.length := by
    unfold zq8 limE
    simp
    omega
   rw [e]
   simp only [List.map_cons, List.sum_cons, List.length_append, recN]
   omega
 have h8 := h7 (dirT t).flatten
 exact ⟨⟨by omega, fun l hl => by have := h6 l hl; omega, by omega, fun l hl r hr => by have := h5 l hl r hr; omega⟩, by omega, by omega, by omega, h5⟩
theorem blk_of_dp {x y : AV} (h : x.dp = y) : AV.blk x = AV.blk y := by rw [← h, blk_dp]
end Go.AM
