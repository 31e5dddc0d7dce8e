/- The plain law of SeqBack: what layout lays. -/
import Derived.Test.YtknlmgnfflfpeaaC23R
namespace Go.AM
open Go.RowKit Go.Proofs
set_option linter.unusedSimpArgs false
set_option linter.unusedVariables false
set_option maxHeartbeats 1000000

def mkT : Nat → List (List UInt8) → List Rec
  | _, [] => []
  | n, b :: l => ⟨((n + 1 : Nat) : Int), [], b, false⟩ :: mkT (n + 1) l
@[simp] theorem mkT_length : ∀ (l : List (List UInt8)) (n : Nat), (mkT n l).length = l.length
  | [], _ => rfl
  | b :: l, n => by simp [mkT, mkT_length l (n + 1)]
theorem mkT_snoc : ∀ (l : List (List UInt8)) (n : Nat) (b : List UInt8), mkT n (l ++ [b]) = mkT n l ++ [⟨((n + l.length + 1 : Nat) : Int), [], b, false⟩]
  | [], n, b => by simp [mkT]
  | c :: l, n, b => by
    simp only [List.cons_append, mkT, mkT_snoc l (n + 1) b, List.length_cons]
    rw [show n + 1 + l.length + 1 = n + (l.length + 1) + 1 by omega]
theorem mkT_get : ∀ (l : List (List UInt8)) (n k : Nat), (mkT n l)[k]? = l[k]?.map fun b => (⟨((n + k + 1 : Nat) : Int), [], b, false⟩ : Rec)
  | [], n, k => by simp [mkT]
  | c :: l, n, 0 => by simp [mkT]
  | c :: l, n, k + 1 => by
    simp only [mkT, List.getElem?_cons_succ, mkT_get l (n + 1) k]
    rw [show n + 1 + k + 1 = n + (k + 1) + 1 by omega]
theorem newR_mk (g : List (List UInt8)) (b : List UInt8) : mkT 0 g ++ [newR (mkT 0 g) b] = mkT 0 (g ++ [b]) := by
  rw [mkT_snoc]; simp [newR]

def lastS (p : Option Int) : List Rec → Option Int
  | [] => p
  | r :: t => lastS (some r.R) t
theorem lastR_prev : ∀ (t : List Rec) (p : Option Int), lastS p t = if t = [] then p else prevR t t.length
  | [], p => rfl
  | [r], p => by simp [lastS, prevR]
  | r :: q :: t, p => by
    rw [lastS, lastR_prev (q :: t) (some r.R)]
    simp [prevR]
theorem vgo_snocS : ∀ (t : List Rec) (p : Option Int) (r : Rec), vgo p (t ++ [r]) = (vgo p t && !badR (lastS p t) r)
  | [], p, r => by simp [vgo_cons, vgo_nil, lastS, badR]
  | q :: t, p, r => by
    rw [List.cons_append, vgo_cons, vgo_cons, vgo_snocS t (some q.R) r, lastS]
    simp only [Bool.and_assoc]
theorem vtrk_snocS {t : List Rec} {r : Rec} (h : fitsT t r = true) : vtrk (t ++ [r]) = true := by
  unfold fitsT vtrk at h
  unfold vtrk
  rw [vgo_snocS, lastR_prev, usedM_snoc]
  have hp : (if t = [] then none else prevR t t.length) = prevR t t.length := by
    split
    · rename_i e; subst e; rfl
    · rfl
  rw [hp]
  simp only [Bool.and_eq_true, decide_eq_true_eq] at h ⊢
  exact ⟨⟨h.1.1.1, h.1.2⟩, h.2⟩
theorem vtrk_nil : vtrk [] = true := by decide
theorem vtrk_one {b : List UInt8} (h : b.length ≤ 1024) : vtrk [⟨1, [], b, false⟩] = true := by
  simp [vtrk, vgo_cons, vgo_nil, vrec, usedM, costM]; omega
theorem fits_nil {b : List UInt8} (h : b.length ≤ 1024) : fitsT [] (newR [] b) = true := by
  simp [fitsT, vtrk_nil, badR, prevR, vrec, newR, usedM, costM]; omega

structure LayI (ds : List (List UInt8)) (gs : List (List (List UInt8))) (g : List (List UInt8)) : Prop where
  flat : gs.flatten ++ g = ds
  ne : ∀ x ∈ gs, x ≠ []
  gne : g = [] → gs = []
  val : ∀ x ∈ gs ++ [g], vtrk (mkT 0 x) = true
  adj : ∀ i x y, (gs ++ [g])[i]? = some x → (gs ++ [g])[i + 1]? = some y → ∃ b rest, y = b :: rest ∧ fitsT (mkT 0 x) ⟨((x.length + 1 : Nat) : Int), [], b, false⟩ = false

theorem lay_step {ds : List (List UInt8)} {gs : List (List (List UInt8))} {g : List (List UInt8)} {b : List UInt8} (h : LayI ds gs g) (hb : b.length ≤ 1024) :
    ∃ gs' g', placeM (gs.map (mkT 0), mkT 0 g) b = (gs'.map (mkT 0), mkT 0 g') ∧ LayI (ds ++ [b]) gs' g' ∧ g' ≠ [] := by
  cases hf : fitsT (mkT 0 g) (newR (mkT 0 g) b) with
  | true =>
    refine ⟨gs, g ++ [b], by simp [placeM, hf, newR_mk], ⟨by rw [← h.flat]; simp, h.ne, fun e => by simp at e, fun x hx => ?_, fun i x y hx hy => ?_⟩, by simp⟩
    · rcases List.mem_append.1 hx with hx | hx
      · exact h.val x (List.mem_append_left _ hx)
      · rw [List.mem_singleton.1 hx, ← newR_mk]
        exact vtrk_snocS hf
    · have hlt : i + 1 < (gs ++ [g ++ [b]]).length := (List.getElem?_eq_some_iff.1 hy).1
      simp at hlt
      have hx' : (gs ++ [g])[i]? = some x := by
        rw [List.getElem?_append_left (by omega)] at hx ⊢; exact hx
      by_cases c : i + 1 < gs.length
      · refine h.adj i x y hx' ?_
        rw [List.getElem?_append_left c] at hy ⊢; exact hy
      · have e : i + 1 = gs.length := by omega
        rw [e, List.getElem?_append_right (by omega)] at hy
        simp at hy
        obtain ⟨c, rest, h1, h2⟩ := h.adj i x g hx' (by rw [e, List.getElem?_append_right (by omega)]; simp)
        exact ⟨c, rest ++ [b], by rw [← hy, h1]; rfl, h2⟩
  | false =>
    have hg : g ≠ [] := fun e => by rw [e] at hf; rw [show mkT 0 [] = [] from rfl, fits_nil hb] at hf; cases hf
    refine ⟨gs ++ [g], [b], by simp [placeM, hf, mkT], ⟨by rw [← h.flat]; simp, fun x hx => ?_, fun e => by simp at e, fun x hx => ?_, fun i x y hx hy => ?_⟩, by simp⟩
    · rcases List.mem_append.1 hx with hx | hx
      · exact h.ne x hx
      · rw [List.mem_singleton.1 hx]; exact hg
    · rcases List.mem_append.1 hx with hx | hx
      · exact h.val x hx
      · rw [List.mem_singleton.1 hx]
        exact vtrk_one hb
    · have hlt : i + 1 < (gs ++ [g] ++ [[b]]).length := (List.getElem?_eq_some_iff.1 hy).1
      simp only [List.length_append, List.length_singleton] at hlt
      have hx' : (gs ++ [g])[i]? = some x := by
        rw [List.getElem?_append_left (by simp; omega)] at hx; exact hx
      by_cases c : i + 1 < (gs ++ [g]).length
      · refine h.adj i x y hx' ?_
        rw [List.getElem?_append_left c] at hy; exact hy
      · simp only [List.length_append, List.length_singleton] at c
        have e : i = gs.length := by omega
        subst e
        rw [List.getElem?_append_right (by simp)] at hy
        rw [List.getElem?_append_right (by omega)] at hx'
        simp at hy hx'
        subst hy hx'
        refine ⟨b, [], rfl, ?_⟩
        simpa [newR] using hf
theorem lay_fold : ∀ (bs ds : List (List UInt8)) (gs : List (List (List UInt8))) (g : List (List UInt8)), LayI ds gs g → (∀ b ∈ bs, b.length ≤ 1024) →
    ∃ gs' g', bs.foldl placeM (gs.map (mkT 0), mkT 0 g) = (gs'.map (mkT 0), mkT 0 g') ∧ LayI (ds ++ bs) gs' g' ∧ (bs ≠ [] → g' ≠ [])
  | [], ds, gs, g, h, _ => ⟨gs, g, rfl, by simpa using h, fun e => absurd rfl e⟩
  | b :: bs, ds, gs, g, h, hb => by
    obtain ⟨gs1, g1, e1, h1, n1⟩ := lay_step h (hb b List.mem_cons_self)
    obtain ⟨gs2, g2, e2, h2, n2⟩ := lay_fold bs (ds ++ [b]) gs1 g1 h1 fun x hx => hb x (List.mem_cons_of_mem _ hx)
    refine ⟨gs2, g2, by rw [List.foldl_cons, e1, e2], by simpa using h2, fun _ => ?_⟩
    cases bs with
    | nil =>
      simp only [List.foldl_nil, Prod.mk.injEq] at e2
      intro e
      have h3 := congrArg List.length e2.2
      simp [e] at h3
      exact n1 h3
    | cons c cs => exact n2 (by simp)

theorem lay_form {bs : List (List UInt8)} (hb : ∀ b ∈ bs, b ≠ [] ∧ b.length ≤ 1024) :
    ∃ gs g, layM bs = (gs ++ [g ++ [[]]]).map (mkT 0) ∧ gs.flatten ++ g = bs ∧ LayI (bs ++ [[]]) gs (g ++ [[]]) := by
  obtain ⟨gs, g, e, h, n⟩ := lay_fold (bs ++ [[]]) [] [] [] ⟨rfl, by simp, fun _ => rfl, by simp [mkT, vtrk_nil], fun i x y hx hy => by simp at hy⟩ fun b hb' => by
    rcases List.mem_append.1 hb' with h | h
    · exact (hb b h).2
    · rw [List.mem_singleton.1 h]; simp
  have hg := n (by simp)
  rcases List.eq_nil_or_concat g with h0 | ⟨g', c, hc⟩
  · exact absurd h0 hg
  · rw [List.concat_eq_append] at hc
    subst hc
    have hfl := h.flat
    rw [List.nil_append, ← List.append_assoc] at hfl
    obtain ⟨f1, f2⟩ := List.append_inj' hfl rfl
    simp at f2
    subst f2
    refine ⟨gs, g', ?_, f1, by simpa using h⟩
    unfold layM
    rw [show (([], []) : List (List Rec) × List Rec) = (([] : List (List (List UInt8))).map (mkT 0), mkT 0 []) from rfl, e]
    simp
theorem rk_mk (n : Nat) (b : List UInt8) : rk (n + 1) ⟨((n + 1 : Nat) : Int), [], b, false⟩ = if b = [] then 1 else 0 := by simp [rk]
theorem trk_full : ∀ (x : List (List UInt8)) (n : Nat) (o : List (List UInt8)), (∀ b ∈ x, b ≠ []) → trk n (mkT n x) o = (0, o ++ x)
  | [], n, o, _ => by simp [mkT, trk]
  | b :: x, n, o, h => by
    rw [mkT, trk, rk_mk, if_neg (h b List.mem_cons_self), if_pos rfl, trk_full x (n + 1) _ fun c hc => h c (List.mem_cons_of_mem _ hc)]
    simp
theorem trk_end : ∀ (x : List (List UInt8)) (n : Nat) (o : List (List UInt8)), (∀ b ∈ x, b ≠ []) → trk n (mkT n (x ++ [[]])) o = (1, o ++ x)
  | [], n, o, _ => by simp [mkT, trk, rk]
  | b :: x, n, o, h => by
    rw [List.cons_append, mkT, trk, rk_mk, if_neg (h b List.mem_cons_self), if_pos rfl, trk_end x (n + 1) _ fun c hc => h c (List.mem_cons_of_mem _ hc)]
    simp
theorem blk_full (g : List (List UInt8)) (hg : ∀ b ∈ g, b ≠ []) (tl : List (List Rec)) : ∀ (gs : List (List (List UInt8))) (o : List (List UInt8)), (∀ x ∈ gs, ∀ b ∈ x, b ≠ []) → blkGo ((gs ++ [g ++ [[]]]).map (mkT 0) ++ tl) o = (o ++ gs.flatten ++ g, 0)
  | [], o, _ => by simp [blkGo, trk_end g 0 o hg]
  | x :: gs, o, h => by
    rw [List.cons_append, List.map_cons, List.cons_append, blkGo, trk_full x 0 o (h x List.mem_cons_self), if_pos rfl, blk_full g hg tl gs _ fun y hy => h y (List.mem_cons_of_mem _ hy)]
    simp
theorem blocks_lay {bs : List (List UInt8)} (hb : ∀ b ∈ bs, b ≠ [] ∧ b.length ≤ 1024) (tl : List (List Rec)) : blocksM (layM bs ++ tl) = (bs, 0) := by
  obtain ⟨gs, g, h1, h2, h3⟩ := lay_form hb
  unfold blocksM
  rw [h1, blk_full g (fun b h => (hb b (by rw [← h2]; simp [h])).1) tl gs [] fun x hx b h => (hb b (by rw [← h2]; exact List.mem_append_left _ (List.mem_flatten.2 ⟨x, hx, h⟩))).1]
  simp [h2]

structure BackOk (T : List (List Rec)) : Prop where
  ne : T ≠ []
  val : ∀ t ∈ T, vtrk t = true ∧ t ≠ []
  num : ∀ (i : Nat) (t : List Rec) (k : Nat) (r : Rec), T[i]? = some t → t[k]? = some r → r.R = ((k + 1 : Nat) : Int) ∧ (r.data = [] ↔ i + 1 = T.length ∧ k + 1 = t.length)
  fit : ∀ (i : Nat) (t u : List Rec) (r : Rec), T[i]? = some t → T[i + 1]? = some u → u[0]? = some r → fitsT t ⟨((t.length + 1 : Nat) : Int), r.key, r.data, r.bad⟩ = false
theorem back_ok {bs : List (List UInt8)} (hb : ∀ b ∈ bs, b ≠ [] ∧ b.length ≤ 1024) : BackOk (layM bs) := by
  obtain ⟨gs, g, h1, h2, h3⟩ := lay_form hb
  rw [h1]
  refine ⟨by simp, fun t ht => ?_, fun i t k r hi hk => ?_, fun i t u r ht hu hr => ?_⟩
  · obtain ⟨x, hx, rfl⟩ := List.mem_map.1 ht
    refine ⟨h3.val x hx, fun e => ?_⟩
    have hl := congrArg List.length e
    simp at hl
    rcases List.mem_append.1 hx with h | h
    · exact h3.ne x h hl
    · rw [List.mem_singleton.1 h] at hl; simp at hl
  · rw [List.getElem?_map] at hi
    obtain ⟨x, hx, rfl⟩ := Option.map_eq_some_iff.1 hi
    rw [mkT_get] at hk
    obtain ⟨b, hk2, rfl⟩ := Option.map_eq_some_iff.1 hk
    clear hk
    have hk := hk2
    refine ⟨by simp, ?_⟩
    simp only [List.length_map, List.length_append, List.length_singleton, mkT_length]
    have hkl := (List.getElem?_eq_some_iff.1 hk).1
    have hil := (List.getElem?_eq_some_iff.1 hx).1
    simp only [List.length_append, List.length_singleton] at hil
    by_cases c : i < gs.length
    · rw [List.getElem?_append_left c] at hx
      have hbb := (hb b (by rw [← h2]; exact List.mem_append_left _ (List.mem_flatten.2 ⟨x, List.mem_of_getElem? hx, List.mem_of_getElem? hk⟩))).1
      exact ⟨fun e => absurd e hbb, fun e => by omega⟩
    · have e : i = gs.length := by omega
      subst e
      rw [List.getElem?_append_right (by omega)] at hx
      simp at hx
      subst hx
      simp only [List.length_append, List.length_singleton] at hkl ⊢
      by_cases c2 : k < g.length
      · rw [List.getElem?_append_left c2] at hk
        have hbb := (hb b (by rw [← h2]; exact List.mem_append_right _ (List.mem_of_getElem? hk))).1
        exact ⟨fun e => absurd e hbb, fun e => by omega⟩
      · have e2 : k = g.length := by omega
        subst e2
        rw [List.getElem?_append_right (by omega)] at hk
        simp at hk
        simp [hk]
  · rw [List.getElem?_map] at ht hu
    obtain ⟨x, hx, rfl⟩ := Option.map_eq_some_iff.1 ht
    obtain ⟨y, hy, rfl⟩ := Option.map_eq_some_iff.1 hu
    obtain ⟨b, rest, rfl, hf⟩ := h3.adj i x y hx hy
    rw [mkT] at hr
    simp at hr
    subst hr
    simpa using hf
end Go.AM
