/- Parts of the walk: C31EK C31EM C31EN C31EO C31EP C31EL. -/
import Derived.Test.YtlhaljblcimnbaaG8
namespace Go.AM
open Go.RowKit Go.Proofs
set_option linter.unusedSimpArgs false
set_option linter.unusedVariables false
set_option maxHeartbeats 1000000
def esdOf : AV → Option Esd
 | .agg [.v (.string s), .v (.int .i64 a), .v (.int .i64 b), .v (.int .i64 c), .v (.int .i64 d)] => some ⟨s.data.toList, a, b, c, d⟩
 | _ => none
theorem esdOf_eq {x : AV} {r : Esd} (h : esdOf x = some r) : x = esA r := by
 unfold esdOf at h
 split at h
 ·cases h; simp [strB]
 ·cases h
def rldOf : AV → Option Rld
 | .agg [.v (.int .i64 a), .v (.int .i64 b), .v (.int .i64 c), .v (.int .i64 d), .v (.bool e)] => some ⟨a, b, c, d, e⟩
 | _ => none
theorem rldOf_eq {x : AV} {r : Rld} (h : rldOf x = some r) : x = rdA r := by
 unfold rldOf at h
 split at h
 ·cases h; rfl
 ·cases h
def txtOf : AV → Option Txt
 | .agg [.v (.int .i64 a), .v (.int .i64 b), .lst .any 1 c] => (bytesOf c).map fun l => ⟨a, b, l⟩
 | _ => none
theorem txtOf_eq {x : AV} {r : Txt} (h : txtOf x = some r) : x = txA r := by
 unfold txtOf at h
 split at h
 ·obtain ⟨l, hl, rfl⟩ := Option.map_eq_some_iff.1 h
  rw [bytesOf_eq hl]; rfl
 ·cases h
def segOf : AV → Option Seg
 | .agg [.v (.int .i64 a), .v (.int .i64 b), .v (.int .i64 c), .v (.int .i64 d)] => some ⟨a, b, c, d⟩
 | _ => none
theorem segOf_eq {x : AV} {r : Seg} (h : segOf x = some r) : x = segA r := by
 unfold segOf at h
 split at h
 ·cases h; rfl
 ·cases h
def rloOf : AV → Option Rlo
 | .agg [.v (.int .i64 a), .v (.int .i64 b), .v (.bool c)] => some ⟨a, b, c⟩
 | _ => none
theorem rloOf_eq {x : AV} {r : Rlo} (h : rloOf x = some r) : x = rloA r := by
 unfold rloOf at h
 split at h
 ·cases h; rfl
 ·cases h
def listOf {α : Type} (f : AV → Option α) : List AV → Option (List α)
 | [] => some []
 | x :: xs => (f x).bind fun r => (listOf f xs).map fun l => r :: l
theorem listOf_eq {α : Type} {f : AV → Option α} {g : α → AV} (hf : ∀ x r, f x = some r → x = g r) : ∀ {xs : List AV} {l : List α}, listOf f xs = some l → xs = l.map g
 | [], l, h => by simp only [listOf, Option.some.injEq] at h; subst h; rfl
 | x :: xs, l, h => by
  simp only [listOf] at h
  obtain ⟨b, hb, h⟩ := Option.bind_eq_some_iff.1 h
  obtain ⟨l', hl, rfl⟩ := Option.map_eq_some_iff.1 h
  rw [List.map_cons, hf _ _ hb, listOf_eq hf hl]
def obOf : AV → Option OMod
 | .agg [.lst .any 5 a, .lst .any 3 b, .lst .any 5 c, .v (.string s)] => (listOf esdOf a).bind fun a' => (listOf txtOf b).bind fun b' => (listOf rldOf c).map fun c' => ⟨a', b', c', s.data.toList⟩
 | _ => none
theorem obOf_eq {x : AV} {o : OMod} (h : obOf x = some o) : x = obA o := by
 unfold obOf at h
 split at h
 ·obtain ⟨a', h1, h⟩ := Option.bind_eq_some_iff.1 h
  obtain ⟨b', h2, h⟩ := Option.bind_eq_some_iff.1 h
  obtain ⟨c', h3, rfl⟩ := Option.map_eq_some_iff.1 h
  rw [listOf_eq (fun _ _ => esdOf_eq) h1, listOf_eq (fun _ _ => txtOf_eq) h2, listOf_eq (fun _ _ => rldOf_eq) h3]
  simp [esL, txL, rdL, strB]
 ·cases h
def lmOf : AV → Option LMod
 | .agg [.lst .any 1 a, .lst .any 3 b, .lst .any 4 c, .v (.int .i64 e)] => (bytesOf a).bind fun a' => (listOf rloOf b).bind fun b' => (listOf segOf c).map fun c' => ⟨a', b', c', e⟩
 | _ => none
theorem lmOf_eq {x : AV} {m : LMod} (h : lmOf x = some m) : x = lmA m := by
 unfold lmOf at h
 split at h
 ·obtain ⟨a', h1, h⟩ := Option.bind_eq_some_iff.1 h
  obtain ⟨b', h2, h⟩ := Option.bind_eq_some_iff.1 h
  obtain ⟨c', h3, rfl⟩ := Option.map_eq_some_iff.1 h
  rw [bytesOf_eq h1, listOf_eq (fun _ _ => rloOf_eq) h2, listOf_eq (fun _ _ => segOf_eq) h3]
  simp [rlL, sgL]
 ·cases h
def i64b (x : Int) : Bool := decide (-9223372036854775808 ≤ x) && decide (x ≤ 9223372036854775807)
theorem i64b_ok {x : Int} (h : i64b x = true) : i64r x := by simpa [i64b, i64r] using h
def oinB (o : OMod) : Bool := (o.esd.all fun x => decide (x.name.length ≤ 1000000000) && i64b x.addr) && ((o.txt.all fun t => i64b t.addr && decide (t.data.length ≤ 1000000000000)) && o.rld.all fun r => i64b r.addr)
theorem oinB_ok {o : OMod} (h : oinB o = true) : OIn o := by
 simp only [oinB, Bool.and_eq_true, List.all_eq_true, decide_eq_true_eq] at h
 exact ⟨fun x hx => ⟨(h.1 x hx).1, i64b_ok (h.1 x hx).2⟩, fun x hx => ⟨i64b_ok (h.2.1 x hx).1, (h.2.1 x hx).2⟩, fun x hx => i64b_ok (h.2.2 x hx)⟩
def kn31 : KnF := fun f args =>
 if f = 32 then match args with
  | [x] => (obOf x).bind fun o => if oinB o = true then some (.v (.int .i64 (if chkM o = true then 0 else 310))) else none
  | _ => none
 else if f = 19 then match args with
  | [x] => (obOf x).bind fun o => if oinB o = true then some (encOR o) else none
  | _ => none
 else if f = 61 then match args with
  | [.lst .any 1 x] => (bytesOf x).bind fun l => if l.length ≤ 100000 then some (strB (decM l)) else none
  | _ => none
 else if f = 65 then match args with
  | [.lst .any 1 x] => (bytesOf x).bind fun l => if l.length ≤ 100000 then some (strB (decM (trimM l))) else none
  | _ => none
 else if f = 34 then match args with
  | [x] => (lmOf x).bind fun m => if m.seg.length ≤ 100000 ∧ m.text.length ≤ 1000000 ∧ m.rel.length ≤ 1000000 then some (.v (.int .i64 (if ckM m = true then 0 else 310))) else none
  | _ => none
 else if f = 26 then match args with
  | [x] => (lmOf x).bind fun m => if m.seg.length ≤ 100000 ∧ m.text.length ≤ 1000000 ∧ m.rel.length ≤ 1000000 then some (encR m) else none
  | _ => none
 else none
theorem kn31_ok : KnOk Try.prog kn31 := by
 intro f args r h
 unfold kn31 at h
 split at h
 ·rename_i hf
  subst hf
  split at h
  ·obtain ⟨o, ho, h⟩ := Option.bind_eq_some_iff.1 h
   split at h
   ·rename_i hc
    cases h
    rw [obOf_eq ho]
    exact checkObject_sound o (oinB_ok hc)
   ·cases h
  ·cases h
 split at h
 ·rename_i hf
  subst hf
  split at h
  ·obtain ⟨o, ho, h⟩ := Option.bind_eq_some_iff.1 h
   split at h
   ·rename_i hc
    cases h
    rw [obOf_eq ho]
    exact encO_sound o (oinB_ok hc)
   ·cases h
  ·cases h
 split at h
 ·rename_i hf
  subst hf
  split at h
  ·obtain ⟨l, hl, h⟩ := Option.bind_eq_some_iff.1 h
   split at h
   ·rename_i hc
    cases h
    rw [bytesOf_eq hl]
    exact decode_sound l hc
   ·cases h
  ·cases h
 split at h
 ·rename_i hf
  subst hf
  split at h
  ·obtain ⟨l, hl, h⟩ := Option.bind_eq_some_iff.1 h
   split at h
   ·rename_i hc
    cases h
    rw [bytesOf_eq hl]
    exact trim_sound l hc
   ·cases h
  ·cases h
 split at h
 ·rename_i hf
  subst hf
  split at h
  ·obtain ⟨m, hm, h⟩ := Option.bind_eq_some_iff.1 h
   split at h
   ·rename_i hc
    cases h
    rw [lmOf_eq hm]
    exact checkLoad_sound m (by omega) (by omega) (by omega)
   ·cases h
  ·cases h
 split at h
 ·rename_i hf
  subst hf
  split at h
  ·obtain ⟨m, hm, h⟩ := Option.bind_eq_some_iff.1 h
   split at h
   ·rename_i hc
    cases h
    rw [lmOf_eq hm]
    exact encL_sound m (by omega) (by omega) (by omega)
   ·cases h
  ·cases h
 cases h
end Go.AM
namespace Go.AM
open Go.RowKit Go.Proofs
set_option linter.unusedSimpArgs false
set_option linter.unusedVariables false
set_option maxHeartbeats 4000000
def shP : List UInt8 → List (Nat × List UInt8) → List UInt8
 | c, [] => c
 | c, x :: l => shP (putM c x.1 x.2) l
def shF (name : List UInt8) (it : List (Nat × List UInt8)) : List UInt8 := shP (putM (blankL 80) 0 (2 :: name)) it
def ofsL (it : List (Nat × List UInt8)) : List AV := it.map fun x => .v (.int .i64 (x.1 : Nat))
def stsL (it : List (Nat × List UInt8)) : List AV := it.map fun x => strB x.2
@[simp] theorem ofsL_len (it) : (ofsL it).length = it.length := by simp [ofsL]
@[simp] theorem stsL_len (it) : (stsL it).length = it.length := by simp [stsL]
@[simp] theorem ofsL_getElem (l) (i : Nat) (h : i < (ofsL l).length) : (ofsL l)[i] = .v (.int .i64 ((l[i]'(by simpa using h)).1 : Nat)) := by simp [ofsL]
@[simp] theorem stsL_getElem (l) (i : Nat) (h : i < (stsL l).length) : (stsL l)[i] = strB (l[i]'(by simpa using h)).2 := by simp [stsL]
theorem strA_addB (a b : List UInt8) (hl : a.length + b.length ≤ 9223372036854775807) : strA .add ⟨a.toArray⟩ ⟨b.toArray⟩ = some (.v (.string ⟨(a ++ b).toArray⟩)) := by
 have h : (ByteArray.mk a.toArray ++ ByteArray.mk b.toArray) = ByteArray.mk (a ++ b).toArray := by
  apply ByteArray.ext
  rw [ByteArray.data_append]
  simp
 have h2 : ((ByteArray.mk a.toArray).size : Int) + (ByteArray.mk b.toArray).size ≤ 9223372036854775807 := by simp [ByteArray.size]; omega
 simp only [strA, h, if_pos h2]
theorem fillS (i n : Nat) (h : i < n) : setSeg (byL (List.replicate i 64 ++ List.replicate (n - i) 0)) i [.v (.int .u8 64)] = byL (List.replicate (i + 1) 64 ++ List.replicate (n - (i + 1)) 0) := by
 obtain ⟨m, rfl⟩ : ∃ m, n = i + 1 + m := ⟨n - (i + 1), by omega⟩
 have e1 : i + 1 + m - i = m + 1 := by omega
 have e2 : i + 1 + m - (i + 1) = m := by omega
 rw [e1, e2, byL_append, setSeg, List.replicate_succ' (n := i), List.replicate_succ (n := m), byL_cons, byL_append, byL_append]
 rw [List.take_append_of_le_length (by simp), List.take_of_length_le (by simp), List.drop_append]
 simp [byL]
theorem shows_sound (b name : List UInt8) (it : List (Nat × List UInt8)) (hn : name.length ≤ 79) (hb : b.length ≤ 1000000) (hl : it.length ≤ 1000) (hit : ∀ x ∈ it, x.1 + x.2.length ≤ 80 ∧ x.1 < 80) :
  Sound Try.prog 42 [.lst .any 1 (byL b), strB name, .lst .any 1 (ofsL it), .lst .any 1 (stsL it)] (.v (.bool (b == shF name it))) := by
 refine sound_of_W Try.func42 rfl (by decide +kernel) (by simp [Try.f42]) (by simp [AV.rfL, AV.rf, strB, ofsL, stsL]) (by simp [AV.tlL, AV.tl, strB]) (rs := [.tmp 8]) rfl ?_
 rw [show Try.f42.ntmps = 48 from rfl]
 simp only [strB]
 refine W_evK [0, 1, 2, 3] (by simp; rfl) ?_
 refine W_evK [0, 1, 2, 3, 9] (by simp; rfl) ?_
 refine W_seq ?_
 refine W_evK [0, 1, 2, 3, 9, 14, 15] (by simp; rfl) ?_
 refine W_block ?_
 obtain ⟨n, hn80⟩ : ∃ n : Nat, n = 80 := ⟨_, rfl⟩
 refine W_loop (fun k σ => ∃ i : Nat, k = n - i ∧ i ≤ n ∧ σ = ⟨48, [(0, .lst .any 1 (byL b)), (1, .v (.string ⟨name.toArray⟩)), (2, .lst .any 1 (ofsL it)), (3, .lst .any 1 (stsL it)), (9, .arr 0 0 80 80), (14, .v (.int .i64 80)), (15, .v (.int .i64 (i : Nat)))], [.cells 5 (byL (List.replicate i 64 ++ List.replicate (n - i) 0))]⟩) (k := n) ⟨0, rfl, by omega, ?_⟩ ?_
 ·rw [repC_byL31]
  subst hn80
  rfl
 ·rintro k σ ⟨i, rfl, hi, rfl⟩
  by_cases c : i < n
  ·have ci : (i : Int) < 80 := by omega
   have ci2 : i < 80 := by omega
   have wi := w64 (n := (i : Int) + 1) (by omega) (by omega)
   have hL : (byL (List.replicate i 64 ++ List.replicate (n - i) 0)).length = 80 := by simp; omega
   have hf := fillS i n c
   obtain ⟨z, hz⟩ : ∃ z, byL (List.replicate i 64 ++ List.replicate (n - i) 0) = z := ⟨_, rfl⟩
   rw [hz] at hL hf ⊢
   have h1 : i + 1 ≤ z.length := by omega
   refine W_evK [0, 1, 2, 3, 9, 14, 15, 16] (by simp [ci]; rfl) ?_
   refine W_seq ?_
   refine W_cond rfl (fun h => ?_) (fun h => by simp at h)
   refine W_skip ?_
   refine W_seq ?_
   refine W_block ?_
   refine W_evK [0, 1, 2, 3, 9, 14, 15, 10] (by simp; rfl) ?_
   refine W_evE [0, 1, 2, 3, 9, 14, 15] (by simp [ci, ci2, h1]; rfl) ?_
   refine W_evE [0, 1, 2, 3, 9, 14, 15] (by simp [wi]; rfl) ?_
   exact ⟨_, by omega, i + 1, rfl, by omega, by rw [← hf]; simp⟩
  have hie : i = 80 := by omega
  have hfin : byL (List.replicate i 64 ++ List.replicate (n - i) 0) = byL (blankL 80) := by
   rw [hie, hn80, Nat.sub_self, List.replicate_zero, List.append_nil]
   rfl
  rw [hfin]
  have ci : ¬ (i : Int) < 80 := by omega
  refine W_evK [0, 1, 2, 3, 9, 16] (by simp [ci]; rfl) ?_
  refine W_seq ?_
  refine W_cond rfl (fun h => by simp at h) (fun h => ?_)
  refine W_exit ?_
  have hroom : ∀ (c l : List UInt8) (at_ : Nat), at_ + l.length ≤ c.length → setSeg (byL c) at_ (byL l) = byL (putM c at_ l) := fun c l at_ h => by
   have := room_put c l 0 at_ h
   simpa [roomC] using this
  have hadd := strA_addB [2] name (by simp; omega)
  simp only [List.singleton_append] at hadd
  have hsz1 : (ByteArray.mk (2 :: name).toArray).size = name.length + 1 := by simp [ByteArray.size]
  have hmin1 : min (ByteArray.mk (2 :: name).toArray).size 80 = name.length + 1 := by rw [hsz1]; omega
  have hl0 : (blankL 80).length = 80 := by simp
  refine W_rGK [0, 2, 3, 9] ?_
  refine runG_A 3 _ _ ?_
  refine runA_fin (by simp [hadd]; rfl) ?_
  refine runG_W rfl ?_
  refine stepW_copyS (t := 27) (t' := 9) (e := 5) (id := 0) (off := 0) (len := 80) (cap := 80) (ag := false) (cs := byL (blankL 80)) (b := ⟨(2 :: name).toArray⟩) rfl rfl rfl rfl (by simp) (by simp) (by simp) (by simp) (by simp) ?_
  have hcp : setSeg (byL (blankL 80)) 0 (byL ((ByteArray.mk (2 :: name).toArray).data.toList.take (name.length + 1))) = byL (putM (blankL 80) 0 (2 :: name)) := by
   rw [show (ByteArray.mk (2 :: name).toArray).data.toList = 2 :: name from rfl, List.take_of_length_le (by simp), hroom _ _ 0 (by simp; omega)]
  rw [hmin1, hcp]
  refine ⟨_, by simp; rfl, ?_⟩
  obtain ⟨F, hF⟩ : ∃ F, shP (putM (blankL 80) 0 (2 :: name)) it = F := ⟨_, rfl⟩
  have hFd : shF name it = F := hF
  rw [hFd]
  refine W_seqC (fun σ => F.length = 80 ∧ σ = ⟨48, [(0, .lst .any 1 (byL b)), (9, .arr 0 0 80 80)], [.cells 5 (byL F)]⟩) ?_ ?_
  ·refine W_evK [0, 2, 3, 9, 27, 28] (by simp; rfl) ?_
   refine W_block ?_
   refine W_loop (fun k σ => ∃ (i : Nat) (cc : List UInt8), k = it.length - i ∧ i ≤ it.length ∧ cc.length = 80 ∧ shP cc (it.drop i) = F ∧ σ = ⟨48, [(0, .lst .any 1 (byL b)), (2, .lst .any 1 (ofsL it)), (3, .lst .any 1 (stsL it)), (9, .arr 0 0 80 80), (27, .v (.int .i64 (it.length : Nat))), (28, .v (.int .i64 (i : Nat)))], [.cells 5 (byL cc)]⟩) (k := it.length) ⟨0, _, rfl, by omega, by rw [putM_len _ _ _ (by simp; omega)]; simp, hF, by simp⟩ ?_
   rintro k σ ⟨i, cc, rfl, hi, hcl, hsh, rfl⟩
   by_cases c : i < it.length
   ·have ci : (i : Int) < it.length := by omega
    obtain ⟨x, hs⟩ : ∃ x, it[i]? = some x := ⟨_, List.getElem?_eq_getElem c⟩
    have hs2 : it[i]'c = x := by rw [List.getElem?_eq_getElem c] at hs; exact Option.some.inj hs
    have hdr : it.drop i = x :: it.drop (i + 1) := by rw [List.drop_eq_getElem_cons c, hs2]
    obtain ⟨q1, q2⟩ := hit x (List.mem_of_getElem? hs)
    obtain ⟨p, t⟩ := x
    simp only at q1 q2
    have wi := w64 (n := (i : Int) + 1) (by omega) (by omega)
    have p1 : (p : Int) ≤ 80 := by omega
    have p2 : p ≤ 80 := by omega
    have p3 : ¬ 80 = p := by omega
    have hsz2 : (ByteArray.mk t.toArray).size = t.length := by simp [ByteArray.size]
    have hmin2 : min (ByteArray.mk t.toArray).size (80 - p) = t.length := by rw [hsz2]; omega
    rw [hdr, shP] at hsh
    refine W_evK [0, 2, 3, 9, 27, 28, 29] (by simp [ci]; rfl) ?_
    refine W_seq ?_
    refine W_cond rfl (fun h => ?_) (fun h => by simp [c] at h)
    refine W_skip ?_
    refine W_seq ?_
    refine W_block ?_
    refine W_evK [0, 2, 3, 9, 27, 28, 11] (by simp; rfl) ?_
    refine W_forget [0, 2, 3, 9, 27, 28] (W_drawP 10 mx (by decide +kernel) ?_)
    refine runD_pre 5 (by simp [c, ci, hs2]; rfl) rfl ?_
    refine runD_fin (by simp [c, ci, hs2, p1, p2, p3, strB]; rfl) ?_
    refine anyT_allG [10] (by decide +kernel) (by simp) ?_
    intro j hj
    simp only [List.mem_cons, List.not_mem_nil, or_false] at hj
    subst hj
    refine ⟨_, rfl, ?_⟩
    refine .inr ⟨rfl, ?_⟩
    refine stepW_copyS (t := 27) (t' := 9) (e := 5) (id := 0) (off := p) (len := 80 - p) (cap := 80 - p) (ag := false) (cs := byL cc) (b := ⟨t.toArray⟩) rfl rfl rfl rfl (by simp) (by simp) (by simp) (by simp) (by simp; omega) ?_
    have hcp2 : setSeg (byL cc) p (byL ((ByteArray.mk t.toArray).data.toList.take t.length)) = byL (putM cc p t) := by
     rw [show (ByteArray.mk t.toArray).data.toList = t from rfl, List.take_of_length_le (by simp), hroom _ _ p (by omega)]
    rw [hmin2, hcp2]
    refine ⟨_, by simp; rfl, ?_⟩
    refine anyT_done (by decide +kernel) ?_
    refine W_evE [0, 2, 3, 9, 27, 28] (by simp [wi]; rfl) ?_
    exact ⟨_, by omega, i + 1, putM cc p t, rfl, by omega, by rw [putM_len _ _ _ (by omega)]; exact hcl, hsh, by simp⟩
   have hie : i = it.length := by omega
   rw [hie, List.drop_length, shP] at hsh
   subst hsh
   refine W_evK [0, 9, 29] (by simp [c]; rfl) ?_
   refine W_seq ?_
   refine W_cond rfl (fun h => by simp [hie] at h) (fun h => ?_)
   refine W_keepS [0, 9] ?_
   refine W_exit ?_
   exact ⟨hcl, by simp⟩
  rintro _ ⟨hFl, rfl⟩
  have hchunk : chunk false 1 80 (byL F) = byL F := by rw [chunk_byL _ _ (by omega), List.take_of_length_le (by omega)]
  refine W_rK [8] ?_
  refine runA_pre 3 (by simp; rfl) rfl ?_
  have htk : (byL F).take 80 = byL F := by rw [List.take_of_length_le (by simp; omega)]
  refine runA_b (by simp) ⟨_, by simp [evSame, evLent, hchunk, htk, hFl]; rfl, ?_⟩
  refine runA_fin (by simp; rfl) ?_
  refine W_ret ?_
  repeat (first | refine on_ret ?_ | refine in_ret ?_)
  simp [retQ]
end Go.AM
namespace Go.AM
open Go.RowKit Go.Proofs
set_option linter.unusedSimpArgs false
set_option linter.unusedVariables false
set_option maxHeartbeats 1000000
def showOf : List AV → List AV → Option (List (Nat × List UInt8))
 | [], [] => some []
 | .v (.int .i64 (.ofNat n)) :: a, .v (.string t) :: b => (showOf a b).map fun l => (n, t.data.toList) :: l
 | _, _ => none
theorem showOf_eq : ∀ {a b : List AV} {l : List (Nat × List UInt8)}, showOf a b = some l → a = ofsL l ∧ b = stsL l
 | [], [], l, h => by simp only [showOf, Option.some.injEq] at h; subst h; exact ⟨rfl, rfl⟩
 | x :: a, y :: b, l, h => by
  unfold showOf at h
  split at h
  ·rename_i h1 _; cases h1
  ·rename_i n a' t b' h1 h2
   cases h1
   cases h2
   obtain ⟨l', hl, rfl⟩ := Option.map_eq_some_iff.1 h
   obtain ⟨rfl, rfl⟩ := showOf_eq hl
   exact ⟨rfl, rfl⟩
  ·cases h
 | [], _ :: _, l, h => by simp [showOf] at h
 | _ :: _, [], l, h => by simp [showOf] at h
def knS : KnF := fun f args =>
 if f = 42 then match args with
  | [.lst .any 1 x, .v (.string nm), .lst .any 1 a, .lst .any 1 b] => (bytesOf x).bind fun l => (showOf a b).bind fun it =>
    if (nm.data.toList.length ≤ 79 ∧ l.length ≤ 1000000 ∧ it.length ≤ 1000) ∧ (it.all fun x => decide (x.1 + x.2.length ≤ 80) && decide (x.1 < 80)) = true then some (.v (.bool (l == shF nm.data.toList it))) else none
  | _ => none
 else kn31 f args
theorem knS_ok : KnOk Try.prog knS := by
 intro f args r h
 unfold knS at h
 split at h
 ·rename_i hf
  subst hf
  split at h
  ·rename_i x nm a b
   obtain ⟨l, hl, h⟩ := Option.bind_eq_some_iff.1 h
   obtain ⟨it, hit, h⟩ := Option.bind_eq_some_iff.1 h
   split at h
   ·rename_i hc
    cases h
    obtain ⟨⟨h1, h2, h3⟩, h4⟩ := hc
    obtain ⟨rfl, rfl⟩ := showOf_eq hit
    rw [bytesOf_eq hl]
    have := shows_sound l nm.data.toList it h1 h2 h3 (fun x hx => by
     have := List.all_eq_true.1 h4 x hx
     simpa using this)
    simpa [strB] using this
   ·cases h
  ·cases h
 ·exact kn31_ok f args r h
end Go.AM
namespace Go.AM
open Go.RowKit Go.Proofs
set_option linter.unusedSimpArgs false
set_option linter.unusedVariables false
set_option maxHeartbeats 4000000
def all2 {α β : Type} (f : α → β → Bool) : List α → List β → Bool
 | x :: l, y :: m => f x y && all2 f l m
 | _, _ => true
def esV (x : Esd) : List Value := [.string ⟨x.name.toArray⟩, .int .i64 x.kind, .int .i64 x.id, .int .i64 x.addr, .int .i64 x.len]
def rdV (r : Rld) : List Value := [.int .i64 r.in_, .int .i64 r.to_, .int .i64 r.addr, .int .i64 r.len, .bool r.neg]
noncomputable def fs78 : List Field := (Try.prog.fieldsOf 78).toList
noncomputable def fs80 : List Field := (Try.prog.fieldsOf 80).toList
def esEq (x y : Esd) : Bool := x.name == y.name && (x.kind == y.kind && (x.id == y.id && (x.addr == y.addr && x.len == y.len)))
def rdEq (x y : Rld) : Bool := x.in_ == y.in_ && (x.to_ == y.to_ && (x.addr == y.addr && (x.len == y.len && x.neg == y.neg)))
def txEq (x y : Txt) : Bool := x.id == y.id && (x.addr == y.addr && x.data == y.data)
theorem es_eq (x y : Esd) : eqFv fs78 (esV x) (esV y) = esEq x y := by
 have hf : fs78.map (fun f => f.offset) = [0, 1, 2, 3, 4] := by kernel_rfl
 have key : ∀ us vs : List Value, eqFv fs78 us vs = (fs78.map fun f => f.offset).all fun i => pv (us.getD i undef) (vs.getD i undef) := by
  intro us vs; simp [eqFv, List.all_map, Function.comp_def]
 rw [key, hf]
 simp [esV, pv, esEq, Lib.toList_data]
theorem rd_eq (x y : Rld) : eqFv fs80 (rdV x) (rdV y) = rdEq x y := by
 have hf : fs80.map (fun f => f.offset) = [0, 1, 2, 3, 4] := by kernel_rfl
 have key : ∀ us vs : List Value, eqFv fs80 us vs = (fs80.map fun f => f.offset).all fun i => pv (us.getD i undef) (vs.getD i undef) := by
  intro us vs; simp [eqFv, List.all_map, Function.comp_def]
 rw [key, hf]
 simp [rdV, pv, rdEq]
theorem es_ok (x y : Esd) : okF Try.prog fs78 (esV x) (esV y) = true := by kernel_rfl
theorem rd_ok (x y : Rld) : okF Try.prog fs80 (rdV x) (rdV y) = true := by kernel_rfl
def headE (a b : OMod) : Bool := decide (a.esd.length = b.esd.length) && (decide (a.txt.length = b.txt.length) && (decide (a.rld.length = b.rld.length) && (a.entry == b.entry)))
def eqM (a b : OMod) : Bool := headE a b && (all2 esEq a.esd b.esd && (all2 txEq a.txt b.txt && all2 rdEq a.rld b.rld))
theorem objEqual_sound (a b : OMod) (h1 : a.esd.length ≤ 1000000) (h2 : a.txt.length ≤ 1000000) (h3 : a.rld.length ≤ 1000000) : Sound Try.prog 21 [obA a, obA b] (.v (.bool (eqM a b))) := by
 refine sound_of_W Try.func21 rfl (by decide +kernel) (by simp [Try.f21]) (by simp [AV.rfL, AV.rf, strB]) (by simp [AV.tlL, AV.tl, strB]) (rs := [.tmp 4]) rfl ?_
 rw [show Try.f21.ntmps = 128 from rfl]
 refine W_evK [2, 3] (by simp; rfl) ?_
 refine (show Wt true 0 Try.prog _ _ ⟨128, [(2, .loc 0 0), (3, .loc 1 0)], [.cells 26 (obC a), .cells 26 (obC b)]⟩ from ?_)
 refine W_seqK (fun σ => headE a b = true ∧ σ = ⟨128, [(2, .loc 0 0), (3, .loc 1 0)], [.cells 26 (obC a), .cells 26 (obC b)]⟩) ?_ ?_
 ·by_cases c1 : a.esd.length = b.esd.length
  ·have c1a : a.esd.length = b.esd.length := c1
   by_cases c2 : a.txt.length = b.txt.length
   ·have c2a : a.txt.length = b.txt.length := c2
    by_cases c3 : a.rld.length = b.rld.length
    ·have c3a : a.rld.length = b.rld.length := c3
     by_cases c4 : a.entry = b.entry
     ·have c4a : a.entry = b.entry := c4
      refine W_rK [2, 3, 39] ?_
      refine runA_pre 8 (by simp [obC, c1a, c2a, c3a, c4a]; rfl) rfl ?_
      refine runA_pre 8 (by simp [obC, c1a, c2a, c3a, c4a]; rfl) rfl ?_
      refine runA_pre 8 (by simp [obC, c1a, c2a, c3a, c4a]; rfl) rfl ?_
      refine runA_fin (by simp [obC, strB, c1a, c2a, c3a, c4a]; rfl) ?_
      refine W_cond rfl (fun h => by simp at h) (fun h => ?_)
      refine W_keepS [2, 3] ?_
      refine W_skip ?_
      exact ⟨by simp [headE, c1a, c2a, c3a, c4a], by simp [obC, strB, c1a, c2a, c3a, c4a]⟩
     have c4a : ¬ a.entry = b.entry := c4
     have c4b : (a.entry == b.entry) = false := beq_eq_false_iff_ne.2 c4
     refine W_rK [2, 3, 39] ?_
     refine runA_pre 8 (by simp [obC, c1a, c2a, c3a, c4a, c4b]; rfl) rfl ?_
     refine runA_pre 8 (by simp [obC, c1a, c2a, c3a, c4a, c4b]; rfl) rfl ?_
     refine runA_pre 8 (by simp [obC, c1a, c2a, c3a, c4a, c4b]; rfl) rfl ?_
     refine runA_fin (by simp [obC, strB, c1a, c2a, c3a, c4a, c4b]; rfl) ?_
     refine W_cond rfl (fun h => ?_) (fun h => by simp at h)
     refine W_evK [4] (by simp; rfl) ?_
     refine W_ret ?_
     repeat (first | refine on_ret ?_ | refine in_ret ?_)
     simp [retQ, eqM, headE, c1a, c2a, c3a, c4a, c4b]
    have c3a : ¬ a.rld.length = b.rld.length := c3
    have c3b : (((a.rld.length : Nat) : Int) == (b.rld.length : Nat)) = false := by rw [beq_eq_false_iff_ne]; omega
    have c3c : (((a.rld.length : Nat) : Int) != (b.rld.length : Nat)) = true := by rw [bne_iff_ne]; omega
    refine W_rK [2, 3, 39] ?_
    refine runA_pre 8 (by simp [obC, c1a, c2a, c3a, c3b, c3c]; rfl) rfl ?_
    refine runA_pre 8 (by simp [obC, c1a, c2a, c3a, c3b, c3c]; rfl) rfl ?_
    refine runA_pre 8 (by simp [obC, c1a, c2a, c3a, c3b, c3c]; rfl) rfl ?_
    refine runA_fin (by simp [obC, strB, c1a, c2a, c3a, c3b, c3c]; rfl) ?_
    refine W_cond rfl (fun h => ?_) (fun h => by simp at h)
    refine W_evK [4] (by simp; rfl) ?_
    refine W_ret ?_
    repeat (first | refine on_ret ?_ | refine in_ret ?_)
    simp [retQ, eqM, headE, c1a, c2a, c3a, c3b, c3c]
   have c2a : ¬ a.txt.length = b.txt.length := c2
   have c2b : (((a.txt.length : Nat) : Int) == (b.txt.length : Nat)) = false := by rw [beq_eq_false_iff_ne]; omega
   have c2c : (((a.txt.length : Nat) : Int) != (b.txt.length : Nat)) = true := by rw [bne_iff_ne]; omega
   refine W_rK [2, 3, 39] ?_
   refine runA_pre 8 (by simp [obC, c1a, c2a, c2b, c2c]; rfl) rfl ?_
   refine runA_pre 8 (by simp [obC, c1a, c2a, c2b, c2c]; rfl) rfl ?_
   refine runA_pre 8 (by simp [obC, c1a, c2a, c2b, c2c]; rfl) rfl ?_
   refine runA_fin (by simp [obC, strB, c1a, c2a, c2b, c2c]; rfl) ?_
   refine W_cond rfl (fun h => ?_) (fun h => by simp at h)
   refine W_evK [4] (by simp; rfl) ?_
   refine W_ret ?_
   repeat (first | refine on_ret ?_ | refine in_ret ?_)
   simp [retQ, eqM, headE, c1a, c2a, c2b, c2c]
  have c1a : ¬ a.esd.length = b.esd.length := c1
  have c1b : (((a.esd.length : Nat) : Int) == (b.esd.length : Nat)) = false := by rw [beq_eq_false_iff_ne]; omega
  have c1c : (((a.esd.length : Nat) : Int) != (b.esd.length : Nat)) = true := by rw [bne_iff_ne]; omega
  refine W_rK [2, 3, 39] ?_
  refine runA_pre 8 (by simp [obC, c1a, c1b, c1c]; rfl) rfl ?_
  refine runA_pre 8 (by simp [obC, c1a, c1b, c1c]; rfl) rfl ?_
  refine runA_pre 8 (by simp [obC, c1a, c1b, c1c]; rfl) rfl ?_
  refine runA_fin (by simp [obC, strB, c1a, c1b, c1c]; rfl) ?_
  refine W_cond rfl (fun h => ?_) (fun h => by simp at h)
  refine W_evK [4] (by simp; rfl) ?_
  refine W_ret ?_
  repeat (first | refine on_ret ?_ | refine in_ret ?_)
  simp [retQ, eqM, headE, c1a, c1b, c1c]
 rintro _ ⟨hhd, rfl⟩
 have hhd2 := hhd
 simp only [headE, Bool.and_eq_true, decide_eq_true_eq, beq_iff_eq] at hhd2
 obtain ⟨e1, e2, e3, e4⟩ := hhd2
 refine W_seqK (fun σ => all2 esEq a.esd b.esd = true ∧ σ = ⟨128, [(2, .loc 0 0), (3, .loc 1 0)], [.cells 26 (obC a), .cells 26 (obC b)]⟩) ?_ ?_
 ·refine W_evK [2, 3, 42, 43] (by simp [obC]; rfl) ?_
  refine W_block ?_
  refine W_loop (fun k σ => ∃ i : Nat, k = a.esd.length - i ∧ i ≤ a.esd.length ∧ all2 esEq a.esd b.esd = all2 esEq (a.esd.drop i) (b.esd.drop i) ∧ σ = ⟨128, [(2, .loc 0 0), (3, .loc 1 0), (42, .v (.int .i64 (a.esd.length : Nat))), (43, .v (.int .i64 (i : Nat)))], [.cells 26 (obC a), .cells 26 (obC b)]⟩) (k := a.esd.length) ⟨0, rfl, by omega, by simp, by simp [obC, strB]⟩ ?_
  rintro k σ ⟨i, rfl, hi, hall, rfl⟩
  by_cases c : i < a.esd.length
  ·have cb : i < b.esd.length := by omega
   have ci : (i : Int) < a.esd.length := by omega
   have cib : (i : Int) < b.esd.length := by omega
   obtain ⟨x, hs⟩ : ∃ x, a.esd[i]? = some x := ⟨_, List.getElem?_eq_getElem c⟩
   have hx2 : a.esd[i]'c = x := by rw [List.getElem?_eq_getElem c] at hs; exact Option.some.inj hs
   obtain ⟨y, hy⟩ : ∃ y, b.esd[i]? = some y := ⟨_, List.getElem?_eq_getElem cb⟩
   have hy2 : b.esd[i]'cb = y := by rw [List.getElem?_eq_getElem cb] at hy; exact Option.some.inj hy
   rw [List.drop_eq_getElem_cons c, hx2, List.drop_eq_getElem_cons cb, hy2, all2] at hall
   have wi := w64 (n := (i : Int) + 1) (by omega) (by omega)
   refine W_evK [2, 3, 42, 43, 44] (by simp [ci]; rfl) ?_
   refine W_seq ?_
   refine W_cond rfl (fun h => ?_) (fun h => by simp [c] at h)
   refine W_skip ?_
   refine W_seq ?_
   refine W_block ?_
   refine W_evK [2, 3, 42, 43, 5] (by simp; rfl) ?_
   refine W_seqC (fun σ => σ = ⟨128, [(2, .loc 0 0), (3, .loc 1 0), (42, .v (.int .i64 (a.esd.length : Nat))), (43, .v (.int .i64 (i : Nat))), (56, .v (.bool (!esEq x y)))], [.cells 26 (obC a), .cells 26 (obC b)]⟩) ?_ ?_
   ·refine W_forget [2, 3, 42, 43, 56] (W_drawP 10 mx (by decide +kernel) ?_)
    refine runD_pre 5 (by simp [obC, c, ci, hx2]; rfl) rfl ?_
    refine runD_fin (by simp [obC, cb, cib, hy2]; rfl) ?_
    refine anyT_allG [10] (by decide +kernel) (by simp) ?_
    intro j hj
    simp only [List.mem_cons, List.not_mem_nil, or_false] at hj
    subst hj
    refine ⟨_, rfl, ?_⟩
    refine .inr ⟨rfl, ?_⟩
    refine stepW_neqAgg (t := 78) (k1 := 50) (k2 := 55) (us := esV x) (vs := esV y) (fs := fs78) rfl (by simp [esV, strB]) (by simp [esV, strB]) (by kernel_rfl) (by kernel_rfl) (by kernel_rfl) rfl (es_ok x y) ?_
    rw [es_eq]
    refine ⟨_, by simp; rfl, ?_⟩
    refine anyT_done (by decide +kernel) ?_
    simp [onNormal, keepF, obC, strB]
   rintro _ rfl
   by_cases hq : esEq x y = true
   rotate_left
   ·have hqf : esEq x y = false := by simpa using hq
    refine W_cond (t := true) (by simp [hqf]) (fun h => ?_) (fun h => by simp at h)
    refine W_evK [4] (by simp; rfl) ?_
    refine W_ret ?_
    repeat (first | refine on_ret ?_ | refine in_ret ?_)
    rw [hqf, Bool.false_and] at hall
    simp [retQ, eqM, hhd, hall]
   refine W_cond (t := false) (by simp [hq]) (fun h => by simp at h) (fun h => ?_)
   refine W_skip ?_
   rw [hq, Bool.true_and] at hall
   refine W_evE [2, 3, 42, 43] (by simp [wi]; rfl) ?_
   exact ⟨_, by omega, i + 1, rfl, by omega, hall, by simp [obC, strB]⟩
  have hie : i = a.esd.length := by omega
  rw [hie, List.drop_length] at hall
  refine W_evK [2, 3, 42, 43, 44] (by simp [c]; rfl) ?_
  refine W_seq ?_
  refine W_cond rfl (fun h => by simp [hie] at h) (fun h => ?_)
  refine W_keepS [2, 3] ?_
  refine W_exit ?_
  exact ⟨by rw [hall]; rfl, by simp [obC, strB]⟩
 rintro _ ⟨ha1, rfl⟩
 refine W_seqK (fun σ => all2 txEq a.txt b.txt = true ∧ σ = ⟨128, [(2, .loc 0 0), (3, .loc 1 0)], [.cells 26 (obC a), .cells 26 (obC b)]⟩) ?_ ?_
 ·refine W_evK [2, 3, 60, 61] (by simp [obC]; rfl) ?_
  refine W_block ?_
  refine W_loop (fun k σ => ∃ i : Nat, k = a.txt.length - i ∧ i ≤ a.txt.length ∧ all2 txEq a.txt b.txt = all2 txEq (a.txt.drop i) (b.txt.drop i) ∧ σ = ⟨128, [(2, .loc 0 0), (3, .loc 1 0), (60, .v (.int .i64 (a.txt.length : Nat))), (61, .v (.int .i64 (i : Nat)))], [.cells 26 (obC a), .cells 26 (obC b)]⟩) (k := a.txt.length) ⟨0, rfl, by omega, by simp, by simp [obC, strB]⟩ ?_
  rintro k σ ⟨i, rfl, hi, hall, rfl⟩
  by_cases c : i < a.txt.length
  ·have cb : i < b.txt.length := by omega
   have ci : (i : Int) < a.txt.length := by omega
   have cib : (i : Int) < b.txt.length := by omega
   obtain ⟨x, hs⟩ : ∃ x, a.txt[i]? = some x := ⟨_, List.getElem?_eq_getElem c⟩
   have hx2 : a.txt[i]'c = x := by rw [List.getElem?_eq_getElem c] at hs; exact Option.some.inj hs
   obtain ⟨y, hy⟩ : ∃ y, b.txt[i]? = some y := ⟨_, List.getElem?_eq_getElem cb⟩
   have hy2 : b.txt[i]'cb = y := by rw [List.getElem?_eq_getElem cb] at hy; exact Option.some.inj hy
   rw [List.drop_eq_getElem_cons c, hx2, List.drop_eq_getElem_cons cb, hy2, all2] at hall
   have wi := w64 (n := (i : Int) + 1) (by omega) (by omega)
   refine W_evK [2, 3, 60, 61, 62] (by simp [ci]; rfl) ?_
   refine W_seq ?_
   refine W_cond rfl (fun h => ?_) (fun h => by simp [c] at h)
   refine W_skip ?_
   refine W_seq ?_
   refine W_block ?_
   refine W_evK [2, 3, 60, 61, 6] (by simp; rfl) ?_
   refine W_seqC (fun σ => σ = ⟨128, [(2, .loc 0 0), (3, .loc 1 0), (60, .v (.int .i64 (a.txt.length : Nat))), (61, .v (.int .i64 (i : Nat))), (108, .v (.bool (!txEq x y)))], [.cells 26 (obC a), .cells 26 (obC b)]⟩) ?_ ?_
   ·by_cases d1 : x.id = y.id
    ·have d1a : x.id = y.id := d1
     by_cases d2 : x.addr = y.addr
     ·have d2a : x.addr = y.addr := d2
      by_cases d3 : x.data = y.data
      ·have d3a : x.data = y.data := d3
       refine W_rdE [2, 3, 60, 61, 108] mx (by decide +kernel) ?_
       refine runD_pre 6 (by simp [obC, c, ci, hx2, cb, cib, hy2, d1a, d2a, d3a]; rfl) rfl ?_
       refine runD_pre 6 (by simp [obC, c, ci, hx2, cb, cib, hy2, d1a, d2a, d3a]; rfl) rfl ?_
       refine runD_pre 8 (by simp [obC, c, ci, hx2, cb, cib, hy2, d1a, d2a, d3a]; rfl) rfl ?_
       refine runD_pre 8 (by simp [obC, c, ci, hx2, cb, cib, hy2, d1a, d2a, d3a]; rfl) rfl ?_
       refine runD_pre 8 (by simp [obC, c, ci, hx2, cb, cib, hy2, d1a, d2a, d3a]; rfl) rfl ?_
       refine runD_fin (by simp [obC, c, ci, hx2, cb, cib, hy2, d1a, d2a, d3a]; rfl) ?_
       simp [onNormal, txEq, obC, strB, d1a, d2a, d3a]
      have d3a : ¬ x.data = y.data := d3
      have d3b : (x.data == y.data) = false := beq_eq_false_iff_ne.2 d3
      have d3c : (x.data != y.data) = true := bne_iff_ne.2 d3
      refine W_rdE [2, 3, 60, 61, 108] mx (by decide +kernel) ?_
      refine runD_pre 6 (by simp [obC, c, ci, hx2, cb, cib, hy2, d1a, d2a, d3a, d3b, d3c]; rfl) rfl ?_
      refine runD_pre 6 (by simp [obC, c, ci, hx2, cb, cib, hy2, d1a, d2a, d3a, d3b, d3c]; rfl) rfl ?_
      refine runD_pre 8 (by simp [obC, c, ci, hx2, cb, cib, hy2, d1a, d2a, d3a, d3b, d3c]; rfl) rfl ?_
      refine runD_pre 8 (by simp [obC, c, ci, hx2, cb, cib, hy2, d1a, d2a, d3a, d3b, d3c]; rfl) rfl ?_
      refine runD_pre 8 (by simp [obC, c, ci, hx2, cb, cib, hy2, d1a, d2a, d3a, d3b, d3c]; rfl) rfl ?_
      refine runD_fin (by simp [obC, c, ci, hx2, cb, cib, hy2, d1a, d2a, d3a, d3b, d3c]; rfl) ?_
      simp [onNormal, txEq, obC, strB, d1a, d2a, d3a, d3b, d3c]
     have d2a : ¬ x.addr = y.addr := d2
     have d2b : (x.addr == y.addr) = false := beq_eq_false_iff_ne.2 d2
     have d2c : (x.addr != y.addr) = true := bne_iff_ne.2 d2
     refine W_rdE [2, 3, 60, 61, 108] mx (by decide +kernel) ?_
     refine runD_pre 6 (by simp [obC, c, ci, hx2, cb, cib, hy2, d1a, d2a, d2b, d2c]; rfl) rfl ?_
     refine runD_pre 6 (by simp [obC, c, ci, hx2, cb, cib, hy2, d1a, d2a, d2b, d2c]; rfl) rfl ?_
     refine runD_pre 8 (by simp [obC, c, ci, hx2, cb, cib, hy2, d1a, d2a, d2b, d2c]; rfl) rfl ?_
     refine runD_pre 8 (by simp [obC, c, ci, hx2, cb, cib, hy2, d1a, d2a, d2b, d2c]; rfl) rfl ?_
     refine runD_pre 8 (by simp [obC, c, ci, hx2, cb, cib, hy2, d1a, d2a, d2b, d2c]; rfl) rfl ?_
     refine runD_fin (by simp [obC, c, ci, hx2, cb, cib, hy2, d1a, d2a, d2b, d2c]; rfl) ?_
     simp [onNormal, txEq, obC, strB, d1a, d2a, d2b, d2c]
    have d1a : ¬ x.id = y.id := d1
    have d1b : (x.id == y.id) = false := beq_eq_false_iff_ne.2 d1
    have d1c : (x.id != y.id) = true := bne_iff_ne.2 d1
    refine W_rdE [2, 3, 60, 61, 108] mx (by decide +kernel) ?_
    refine runD_pre 6 (by simp [obC, c, ci, hx2, cb, cib, hy2, d1a, d1b, d1c]; rfl) rfl ?_
    refine runD_pre 6 (by simp [obC, c, ci, hx2, cb, cib, hy2, d1a, d1b, d1c]; rfl) rfl ?_
    refine runD_pre 8 (by simp [obC, c, ci, hx2, cb, cib, hy2, d1a, d1b, d1c]; rfl) rfl ?_
    refine runD_pre 8 (by simp [obC, c, ci, hx2, cb, cib, hy2, d1a, d1b, d1c]; rfl) rfl ?_
    refine runD_pre 8 (by simp [obC, c, ci, hx2, cb, cib, hy2, d1a, d1b, d1c]; rfl) rfl ?_
    refine runD_fin (by simp [obC, c, ci, hx2, cb, cib, hy2, d1a, d1b, d1c]; rfl) ?_
    simp [onNormal, txEq, obC, strB, d1a, d1b, d1c]
   rintro _ rfl
   by_cases hq : txEq x y = true
   rotate_left
   ·have hqf : txEq x y = false := by simpa using hq
    refine W_cond (t := true) (by simp [hqf]) (fun h => ?_) (fun h => by simp at h)
    refine W_evK [4] (by simp; rfl) ?_
    refine W_ret ?_
    repeat (first | refine on_ret ?_ | refine in_ret ?_)
    rw [hqf, Bool.false_and] at hall
    simp [retQ, eqM, hhd, ha1, hall]
   refine W_cond (t := false) (by simp [hq]) (fun h => by simp at h) (fun h => ?_)
   refine W_skip ?_
   rw [hq, Bool.true_and] at hall
   refine W_evE [2, 3, 60, 61] (by simp [wi]; rfl) ?_
   exact ⟨_, by omega, i + 1, rfl, by omega, hall, by simp [obC, strB]⟩
  have hie : i = a.txt.length := by omega
  rw [hie, List.drop_length] at hall
  refine W_evK [2, 3, 60, 61, 62] (by simp [c]; rfl) ?_
  refine W_seq ?_
  refine W_cond rfl (fun h => by simp [hie] at h) (fun h => ?_)
  refine W_keepS [2, 3] ?_
  refine W_exit ?_
  exact ⟨by rw [hall]; rfl, by simp [obC, strB]⟩
 rintro _ ⟨ha2, rfl⟩
 refine W_seqK (fun σ => all2 rdEq a.rld b.rld = true ∧ σ = ⟨128, [(2, .loc 0 0), (3, .loc 1 0)], [.cells 26 (obC a), .cells 26 (obC b)]⟩) ?_ ?_
 ·refine W_evK [2, 3, 112, 113] (by simp [obC]; rfl) ?_
  refine W_block ?_
  refine W_loop (fun k σ => ∃ i : Nat, k = a.rld.length - i ∧ i ≤ a.rld.length ∧ all2 rdEq a.rld b.rld = all2 rdEq (a.rld.drop i) (b.rld.drop i) ∧ σ = ⟨128, [(2, .loc 0 0), (3, .loc 1 0), (112, .v (.int .i64 (a.rld.length : Nat))), (113, .v (.int .i64 (i : Nat)))], [.cells 26 (obC a), .cells 26 (obC b)]⟩) (k := a.rld.length) ⟨0, rfl, by omega, by simp, by simp [obC, strB]⟩ ?_
  rintro k σ ⟨i, rfl, hi, hall, rfl⟩
  by_cases c : i < a.rld.length
  ·have cb : i < b.rld.length := by omega
   have ci : (i : Int) < a.rld.length := by omega
   have cib : (i : Int) < b.rld.length := by omega
   obtain ⟨x, hs⟩ : ∃ x, a.rld[i]? = some x := ⟨_, List.getElem?_eq_getElem c⟩
   have hx2 : a.rld[i]'c = x := by rw [List.getElem?_eq_getElem c] at hs; exact Option.some.inj hs
   obtain ⟨y, hy⟩ : ∃ y, b.rld[i]? = some y := ⟨_, List.getElem?_eq_getElem cb⟩
   have hy2 : b.rld[i]'cb = y := by rw [List.getElem?_eq_getElem cb] at hy; exact Option.some.inj hy
   rw [List.drop_eq_getElem_cons c, hx2, List.drop_eq_getElem_cons cb, hy2, all2] at hall
   have wi := w64 (n := (i : Int) + 1) (by omega) (by omega)
   refine W_evK [2, 3, 112, 113, 114] (by simp [ci]; rfl) ?_
   refine W_seq ?_
   refine W_cond rfl (fun h => ?_) (fun h => by simp [c] at h)
   refine W_skip ?_
   refine W_seq ?_
   refine W_block ?_
   refine W_evK [2, 3, 112, 113, 7] (by simp; rfl) ?_
   refine W_seqC (fun σ => σ = ⟨128, [(2, .loc 0 0), (3, .loc 1 0), (112, .v (.int .i64 (a.rld.length : Nat))), (113, .v (.int .i64 (i : Nat))), (126, .v (.bool (!rdEq x y)))], [.cells 26 (obC a), .cells 26 (obC b)]⟩) ?_ ?_
   ·refine W_forget [2, 3, 112, 113, 126] (W_drawP 10 mx (by decide +kernel) ?_)
    refine runD_pre 5 (by simp [obC, c, ci, hx2]; rfl) rfl ?_
    refine runD_fin (by simp [obC, cb, cib, hy2]; rfl) ?_
    refine anyT_allG [10] (by decide +kernel) (by simp) ?_
    intro j hj
    simp only [List.mem_cons, List.not_mem_nil, or_false] at hj
    subst hj
    refine ⟨_, rfl, ?_⟩
    refine .inr ⟨rfl, ?_⟩
    refine stepW_neqAgg (t := 80) (k1 := 120) (k2 := 125) (us := rdV x) (vs := rdV y) (fs := fs80) rfl (by simp [rdV, strB]) (by simp [rdV, strB]) (by kernel_rfl) (by kernel_rfl) (by kernel_rfl) rfl (rd_ok x y) ?_
    rw [rd_eq]
    refine ⟨_, by simp; rfl, ?_⟩
    refine anyT_done (by decide +kernel) ?_
    simp [onNormal, keepF, obC, strB]
   rintro _ rfl
   by_cases hq : rdEq x y = true
   rotate_left
   ·have hqf : rdEq x y = false := by simpa using hq
    refine W_cond (t := true) (by simp [hqf]) (fun h => ?_) (fun h => by simp at h)
    refine W_evK [4] (by simp; rfl) ?_
    refine W_ret ?_
    repeat (first | refine on_ret ?_ | refine in_ret ?_)
    rw [hqf, Bool.false_and] at hall
    simp [retQ, eqM, hhd, ha1, ha2, hall]
   refine W_cond (t := false) (by simp [hq]) (fun h => by simp at h) (fun h => ?_)
   refine W_skip ?_
   rw [hq, Bool.true_and] at hall
   refine W_evE [2, 3, 112, 113] (by simp [wi]; rfl) ?_
   exact ⟨_, by omega, i + 1, rfl, by omega, hall, by simp [obC, strB]⟩
  have hie : i = a.rld.length := by omega
  rw [hie, List.drop_length] at hall
  refine W_evK [2, 3, 112, 113, 114] (by simp [c]; rfl) ?_
  refine W_seq ?_
  refine W_cond rfl (fun h => by simp [hie] at h) (fun h => ?_)
  refine W_keepS [2, 3] ?_
  refine W_exit ?_
  exact ⟨by rw [hall]; rfl, by simp [obC, strB]⟩
 rintro _ ⟨ha3, rfl⟩
 refine W_evK [4] (by simp; rfl) ?_
 refine W_ret ?_
 repeat (first | refine on_ret ?_ | refine in_ret ?_)
 simp [retQ, eqM, hhd, ha1, ha2, ha3]
end Go.AM
namespace Go.AM
open Go.RowKit Go.Proofs
set_option linter.unusedSimpArgs false
set_option linter.unusedVariables false
set_option maxHeartbeats 1000000
def knE : KnF := fun f args =>
 if f = 21 then match args with
  | [x, y] => (obOf x).bind fun a => (obOf y).bind fun b =>
    if a.esd.length ≤ 1000000 ∧ a.txt.length ≤ 1000000 ∧ a.rld.length ≤ 1000000 then some (.v (.bool (eqM a b))) else none
  | _ => none
 else knS f args
theorem knE_ok : KnOk Try.prog knE := by
 intro f args r h
 unfold knE at h
 split at h
 ·rename_i hf
  subst hf
  split at h
  ·obtain ⟨a, ha, h⟩ := Option.bind_eq_some_iff.1 h
   obtain ⟨b, hb, h⟩ := Option.bind_eq_some_iff.1 h
   split at h
   ·rename_i hc
    cases h
    rw [obOf_eq ha, obOf_eq hb]
    exact objEqual_sound a b hc.1 hc.2.1 hc.2.2
   ·cases h
  ·cases h
 ·exact knS_ok f args r h
end Go.AM
namespace Go.AM
open Go.RowKit Go.Proofs
set_option maxRecDepth 100000
set_option maxHeartbeats 4000000
theorem works_sound : Sound Try.prog 14 [] (.v (.bool true)) := HX.sound_execK (hb := fun t => t == 23) knE_ok mx 3000 (by kernel_rfl)
end Go.AM
