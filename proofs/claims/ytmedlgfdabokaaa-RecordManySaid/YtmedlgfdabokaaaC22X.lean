/- RecordMany: the law's walk. -/
import Derived.Test.YtmedlgfdabokaaaC22V
import Derived.Test.YtmedlgfdabokaaaC22J
import Derived.Test.YtmedlgfdabokaaaC22L
import Derived.Test.YtmedlgfdabokaaaAmC
namespace Go.AM
open Go.RowKit Go.Proofs
set_option linter.unusedSimpArgs false
set_option linter.unusedVariables false
set_option maxHeartbeats 2000000

def lC (n : Nat) (x : UInt8) (i : Nat) : List AV := List.replicate i (.lst (.tip 5 142) 1 [.v (.int .u8 x.toNat)]) ++ List.replicate (n - i) (.lst .nil 1 [])
theorem lC_length {n i : Nat} {x : UInt8} (h : i ≤ n) : (lC n x i).length = n := by simp [lC]; omega
theorem lC_set {n i : Nat} {x : UInt8} (h : i < n) : setSeg (lC n x i) i [.lst (.tip 5 142) 1 [.v (.int .u8 x.toNat)]] = lC n x (i + 1) := by
  unfold setSeg lC
  rw [List.take_append_of_le_length (by simp), List.take_of_length_le (by simp), List.drop_append]
  simp only [List.length_append, List.length_replicate, List.length_singleton]
  rw [List.drop_eq_nil_of_le (by simp), List.nil_append, List.replicate_succ']
  simp only [List.append_assoc]
  congr 2
  rw [show n - i = (n - (i + 1)) + 1 by omega]
  simp
theorem killL_rep (T n : Nat) (y : AV) (h : y.kill T = y) : AV.killL T (List.replicate n y) = List.replicate n y := by
  induction n with
  | zero => rfl
  | succ n ih => rw [List.replicate_succ, AV.killL, ih, h]
theorem killL_app2 (T : Nat) (xs ys : List AV) : AV.killL T (xs ++ ys) = AV.killL T xs ++ AV.killL T ys := by
  induction xs with
  | nil => rfl
  | cons x xs ih => rw [List.cons_append, AV.killL, AV.killL, ih, List.cons_append]
@[simp] theorem lC_kill (n : Nat) (x : UInt8) (i : Nat) : AV.killL 111 (lC n x i) = lC n x i := by
  unfold lC
  rw [killL_app2, killL_rep _ _ _ (by simp), killL_rep _ _ _ (by simp)]
theorem repC_one (n : Nat) (z : AV) : repC n [z] = List.replicate n z := by
  induction n with
  | zero => rfl
  | succ n ih => rw [repC, ih, List.replicate_succ]; rfl
theorem lC_zero (n : Nat) (x : UInt8) : repC n [.lst .nil 1 []] = lC n x 0 := by rw [repC_one]; simp [lC]
theorem dpL_rep (n : Nat) (y : AV) : AV.dpL (List.replicate n y) = List.replicate n y.dp := by
  induction n with
  | zero => rfl
  | succ n ih => rw [List.replicate_succ, AV.dpL, ih, List.replicate_succ]
theorem lC_full (n : Nat) (x : UInt8) : AV.dpL (lC n x n) = bbL (List.replicate n [x]) := by
  unfold lC
  rw [Nat.sub_self, List.replicate_zero, List.append_nil, dpL_rep]
  simp [bbL, byL, List.map_replicate]
mutual
theorem dpKill2 (T : Nat) : (x : AV) → (x.kill T).dp = x.dp
  | .lst (.tip e U) s xs => by
    simp only [AV.kill]
    split <;> rfl
  | .lst .any _ _ | .lst .nil _ _ | .lst .ex _ _ => rfl
  | .agg xs => by simp only [AV.kill, AV.dp, dpLKill2 T xs]
  | .tup xs => by simp only [AV.kill, AV.dp, dpLKill2 T xs]
  | .any | .v _ | .ro _ | .loc _ _ | .arr _ _ _ _ | .fn _ _ _ | .mp _ | .yld _ => rfl
theorem dpLKill2 (T : Nat) : (xs : List AV) → AV.dpL (AV.killL T xs) = AV.dpL xs
  | [] => rfl
  | x :: xs => by simp only [AV.killL, AV.dpL, dpKill2 T x, dpLKill2 T xs]
end
theorem dpL_tk2 (xs : List AV) (n : Nat) : AV.dpL (xs.take n) = (AV.dpL xs).take n := by
  apply List.ext_getElem?
  intro j
  rw [dpL_get, List.getElem?_take, List.getElem?_take]
  split
  · rw [dpL_get]
  · rfl
theorem dpL_app2 (xs ys : List AV) : AV.dpL (xs ++ ys) = AV.dpL xs ++ AV.dpL ys := by
  apply List.ext_getElem?
  intro j
  rw [dpL_get, List.getElem?_append, List.getElem?_append, dpL_length]
  split <;> rw [dpL_get]
theorem setSeg_one2 (cs : List AV) (i : Nat) (y : AV) (h : i < cs.length) : setSeg cs i [y] = cs.set i y := by
  unfold setSeg
  rw [List.set_eq_take_append_cons_drop, if_pos h]
  simp

theorem app35 {s s1 : St} {x1 y : AV} {id j cap : Nat} {cs : List AV} (hid : s.h[id]? = some (.cells 35 cs)) (h2 : 2 ≤ id) (hcl : cs.length = cap) (hj : j ≤ cap) (hq : appQ0 s 35 1 id j cap 1 [y] cs [.lst .nil 1 []] s1 x1) :
    ∃ id' cap' cs' h', x1 = .arr id' 0 (j + 1) cap' ∧ s1 = ⟨s.n, s.fr, h'⟩ ∧ h'[id']? = some (AObj.cells 35 cs') ∧ 2 ≤ id' ∧ cs'.length = cap' ∧ j + 1 ≤ cap' ∧ cs'.take (j + 1) = cs.take j ++ [y] ∧ h'[0]? = s.h[0]? ∧ h'[1]? = s.h[1]? := by
  have hidl : id < s.h.length := (List.getElem?_eq_some_iff.1 hid).1
  rcases hq with ⟨h1, rfl, rfl⟩ | ⟨h1, cap', h2', h3, rfl, rfl⟩
  · refine ⟨id, cap, _, _, rfl, rfl, List.getElem?_set_self hidl, h2, ?_, h1, ?_, by rw [List.getElem?_set_ne (by omega)], by rw [List.getElem?_set_ne (by omega)]⟩
    · rw [setSeg_length]; exact hcl; simp; omega
    · rw [Nat.mul_one]
      have hl : (List.take j cs ++ [y]).length = j + 1 := by simp; omega
      unfold setSeg
      rw [List.take_append_of_le_length (by omega), List.take_of_length_le (by omega)]
  · refine ⟨s.h.length, cap', cs.take (j * 1) ++ [y] ++ repC (cap' - (j + 1)) [.lst .nil 1 []], _, rfl, rfl, by simp, by omega, ?_, h2', ?_, by rw [List.getElem?_append_left (by omega)], by rw [List.getElem?_append_left (by omega)]⟩
    · rw [Nat.mul_one]
      simp [repC_length]
      omega
    · rw [Nat.mul_one]
      have hl : (List.take j cs ++ [y]).length = j + 1 := by simp; omega
      rw [List.take_append_of_le_length (by omega), List.take_of_length_le (by omega)]

structure BlO (x : UInt8) (i : Nat) (y : AV) (H : List AObj) : Prop where
  ok : ∃ id cap cs, y = .arr id 0 (bl x i).length cap ∧ 2 ≤ id ∧ H[id]? = some (AObj.cells 35 cs) ∧ cs.length = cap ∧ (bl x i).length ≤ cap ∧ AV.dpL (cs.take (bl x i).length) = bbL (bl x i) ∧
    cs[(bl x i).length - 1]? = some (.lst (.tip 5 111) 1 (byL (List.replicate ((i - 1) % 1024 + 1) x)))

theorem W_dpB2 {top : Bool} {kf : Nat} {P : Program} {code : Code} {Q : Exit → St → Prop} {s : St} (b : Nat) {ty : TypeId} {cs : List AV} (hb : s.h[b]? = some (.cells ty cs)) (h : Wt top kf P code Q ⟨s.n, s.fr, s.h.set b (.cells ty (AV.dpL cs))⟩) : Wt top kf P code Q s := by
  refine W_conv (fun c w a hs => ?_) h
  refine ⟨hs.n, hs.base, hs.fr, ⟨by simp only [List.length_set]; exact hs.h.no, hs.h.lt, hs.h.inj, fun i o hi => ?_⟩, hs.dfr⟩
  simp only at hi
  rw [List.getElem?_set] at hi
  split at hi
  · rename_i e
    subst e
    split at hi
    · cases hi
      obtain ⟨h1, h2, h3, cur, h4, h5, h6⟩ := hs.h.obj _ _ hb
      refine ⟨h1, h2, h3, cur, h4, by rw [dpL_length]; exact h5, fun j y hj => ?_⟩
      rw [dpL_get] at hj
      obtain ⟨z, hz, rfl⟩ := Option.map_eq_some_iff.1 hj
      obtain ⟨k1, k2, k3⟩ := h6 j z hz
      exact ⟨k1.dp, .none (AV.tl_dp _), k3⟩
    · cases hi
  · exact hs.h.obj i o hi
theorem chunk_bbL (l : List (List UInt8)) : chunk false 1 l.length (bbL l) = bbL l := by
  induction l with
  | nil => rfl
  | cons b l ih =>
    rw [bbL_cons]
    show (AV.lst .any 1 (byL b)) :: chunk false 1 l.length ((AV.lst .any 1 (byL b) :: bbL l).drop 1) = _
    rw [List.drop_succ_cons, List.drop_zero, ih]

theorem W_finB {top : Bool} {kf : Nat} {code : Code} {Q : Exit → St → Prop} {n id cap : Nat} {fr : List (Nat × AV)} {H : List AObj} {cs : List AV} {U : List (List UInt8)} (i : Nat) (hg : getF fr i = some (.arr id 0 U.length cap)) (hobj : H[id]? = some (.cells 35 cs)) (hcl : cs.length = cap) (hle : U.length ≤ cap)
    (htk : AV.dpL (cs.take U.length) = bbL U) (h : ∀ H', (∀ j, j ≠ id → H'[j]? = H[j]?) → Wt top kf Try.prog code Q ⟨n, putF fr i (.lst (.tip 35 1) 1 (bbL U)), H'⟩) : Wt top kf Try.prog code Q ⟨n, fr, H⟩ := by
  refine W_dpB2 id hobj ?_
  have hidl : id < H.length := (List.getElem?_eq_some_iff.1 hobj).1
  have hk : (AV.dpL cs).take U.length = bbL U := by rw [← dpL_tk2]; exact htk
  refine W_tip i (tk := 1) (ty := 35) (sz := 1) (ag := false) hg (by decide) (List.getElem?_set_self hidl) (by kernel_rfl) (by omega) (.inr rfl) (by rw [dpL_length]; omega) (by rw [Nat.mul_one, hk]; simp) (by rw [Nat.mul_one, hk]; simp) ?_
  rw [Nat.mul_one, hk, weakL_bbL, chunk_bbL]
  refine h _ fun j hj => ?_
  rw [List.getElem?_set_ne (Ne.symm hj), List.getElem?_set_ne (Ne.symm hj)]

theorem many_sound (more : Int) (x : UInt8) (bad : Bool) : Sound Try.prog 5 [.v (.int .i64 more), .v (.int .u8 x.toNat), .v (.bool bad)] (.v (.bool true)) := by
  refine sound_of_W Try.func5 rfl (by decide +kernel) (by simp [Try.f5]) rfl rfl (rs := [.tmp 6]) rfl ?_
  rw [show Try.f5.ntmps = 124 from rfl]
  obtain ⟨r, hr, hr3⟩ : ∃ r : Nat, (IntKind.u64.wrap more).tmod 3 = (r : Int) ∧ r < 3 := by
    have h0 : 0 ≤ IntKind.u64.wrap more := by
      unfold IntKind.wrap
      simp only [IntKind.signed, IntKind.bits, Bool.false_and, Bool.false_eq_true, if_false]
      omega
    refine ⟨((IntKind.u64.wrap more).tmod 3).toNat, ?_, ?_⟩
    · rw [Int.toNat_of_nonneg (Int.tmod_nonneg _ h0)]
    · have := Int.tmod_lt_of_pos (IntKind.u64.wrap more) (b := 3) (by decide)
      omega
  obtain ⟨n, hn⟩ : ∃ n, 4095 + r = n := ⟨_, rfl⟩
  have wr := w64 (n := (r : Int)) (by omega) (by omega)
  have wn : IntKind.i64.wrap (4095 + (r : Int)) = (n : Nat) := by rw [w64 (by omega) (by omega)]; omega
  refine W_evK [0, 1, 2] (by simp; rfl) ?_
  refine W_evK [0, 1, 2, 7] (by simp [setSeg]; rfl) ?_
  refine W_evK [1, 2, 7, 8] (by simp [hr, wr, wn]; rfl) ?_
  have hb0 : 24 * n ≤ 281474976710656 := by omega
  have hb1 : (24 : Int) * n ≤ 281474976710656 := by omega
  have hb2 : (n : Int) ≤ 9223372036854775807 := by omega
  have hb3 : n ≤ 9223372036854775807 := by omega
  refine W_evK [1, 2, 7, 8, 9] (by simp [hb0, hb1, hb2, hb3, lC_zero n x]; rfl) ?_
  refine W_evK [1, 2, 7, 8, 9, 10] (by simp; rfl) ?_
  refine W_seq ?_
  refine W_evK [1, 2, 7, 8, 9, 10, 11] (by simp; rfl) ?_
  refine W_block ?_
  refine W_loop (fun k s => ∃ (i : Nat) (y : AV) (H : List AObj), k = n - i ∧ i ≤ n ∧ H[0]? = some (AObj.cells 23 (dcbC d1)) ∧ H[1]? = some (AObj.cells 35 (lC n x i)) ∧ ((i = 0 ∧ y = .lst .nil 1 [] ∧ H.length = 2) ∨ (0 < i ∧ BlO x i y H)) ∧
    s = ⟨124, [(1, .v (.int .u8 x.toNat)), (2, .v (.bool bad)), (7, .loc 0 0), (8, .v (.int .i64 (n : Nat))), (9, .arr 1 0 n n), (10, y), (11, .v (.int .i64 (i : Nat)))], H⟩) (k := n) ⟨0, _, _, rfl, by omega, ?_, ?_, .inl ⟨rfl, rfl, ?_⟩, by simp; rfl⟩ ?_
  · simp [dcbC, d1]
  · simp
  · simp
  rintro k s ⟨i, y, H, rfl, hi, g0, g1, hy, rfl⟩
  refine W_seq ?_
  by_cases c : i < n
  · have ci : (i : Int) < n := by omega
    have g1l : 1 < H.length := (List.getElem?_eq_some_iff.1 g1).1
    have wi := w64 (n := (i : Int) + 1) (by omega) (by omega)
    have hll := lC_length (x := x) hi
    have hl1 : i + 1 ≤ (lC n x i).length := by omega
    have hrem : (i : Int).tmod 1024 = ((i % 1024 : Nat) : Int) := rfl
    refine W_evK [1, 2, 7, 8, 9, 10, 11, 29] (by simp [c, ci]; rfl) ?_
    refine W_cond rfl (fun h => ?_) (fun h => by simp at h)
    refine W_skip ?_
    refine W_seq ?_
    refine W_block ?_
    refine W_evK [1, 2, 7, 8, 9, 10, 11] (by simp [c, ci, g1, hl1, lC_set c]; rfl) ?_
    obtain ⟨H1, hH1⟩ : ∃ H1, H.set 1 (AObj.cells 35 (lC n x (i + 1))) = H1 := ⟨_, rfl⟩
    rw [hH1]
    have k0 : H1[0]? = some (AObj.cells 23 (dcbC d1)) := by rw [← hH1, List.getElem?_set_ne (by omega)]; exact g0
    have k1 : H1[1]? = some (AObj.cells 35 (lC n x (i + 1))) := by rw [← hH1]; exact List.getElem?_set_self g1l
    have kl : H1.length = H.length := by rw [← hH1]; simp
    have hy1 : (i = 0 ∧ y = .lst .nil 1 [] ∧ H1.length = 2) ∨ (0 < i ∧ BlO x i y H1) := by
      rcases hy with ⟨a1, a2, a3⟩ | ⟨a1, ⟨id, cap, cs, a2, a3, a4, a5⟩⟩
      · exact .inl ⟨a1, a2, by omega⟩
      · exact .inr ⟨a1, ⟨id, cap, cs, a2, a3, by rw [← hH1, List.getElem?_set_ne (by omega)]; exact a4, a5⟩⟩
    refine W_seqC (fun s => ∃ (H : List AObj) (id cap k : Nat) (cs : List AV) (z : AV) (pre : List (List UInt8)), H[0]? = some (AObj.cells 23 (dcbC d1)) ∧ H[1]? = some (AObj.cells 35 (lC n x (i + 1))) ∧ 2 ≤ id ∧ H[id]? = some (AObj.cells 35 cs) ∧ cs.length = cap ∧ k + 1 ≤ cap ∧
        AV.dpL (cs.take k) = bbL pre ∧ pre.length = k ∧ cs[k]? = some z ∧
        ((z = .lst .nil 1 [] ∧ bl x (i + 1) = pre ++ [[x]] ∧ i % 1024 = 0) ∨ (∃ b, z = .lst (.tip 5 111) 1 (byL (List.replicate b x)) ∧ b < 1024 ∧ bl x (i + 1) = pre ++ [List.replicate b x ++ [x]] ∧ b + 1 = (i + 1 - 1) % 1024 + 1)) ∧
        s = ⟨124, [(1, .v (.int .u8 x.toNat)), (2, .v (.bool bad)), (7, .loc 0 0), (8, .v (.int .i64 (n : Nat))), (9, .arr 1 0 n n), (10, .arr id 0 (k + 1) cap), (11, .v (.int .i64 (i : Nat)))], H⟩) ?_ ?_
    · by_cases hm : i % 1024 = 0
      · refine W_evK [1, 2, 7, 8, 9, 10, 11, 39] (by simp [hrem, hm]; rfl) ?_
        refine W_cond rfl (fun h => ?_) (fun h => by simp at h)
        refine W_rE [1, 2, 7, 8, 9, 10, 11] ?_
        refine runA_pre 1 (by simp; rfl) rfl ?_
        refine runA_b (by simp) ⟨_, by simp [evSame, evBsO, catK, AV.cellsK, AV.kone, AV.koneL]; rfl, ?_⟩
        have q0 : ∀ X, (H1 ++ X)[0]? = some (AObj.cells 23 (dcbC d1)) := fun X => by rw [List.getElem?_append_left (by omega)]; exact k0
        have q1 : ∀ X, (H1 ++ X)[1]? = some (AObj.cells 35 (lC n x (i + 1))) := fun X => by rw [List.getElem?_append_left (by omega)]; exact k1
        rcases hy1 with ⟨rfl, rfl, hl2⟩ | ⟨a1, ⟨id, cap, cs, rfl, a3, a4, a5, a6, a7, a8⟩⟩
        · refine runA_nilA (t := 24) (e := 35) (sz := 1) (by_ := 24) (m := 1) (s0 := 1) (x0 := []) (yc := [.lst .nil 1 []]) (by simp) rfl rfl rfl rfl (by simp) (by simp [srcA]) s24 a35 z35 (by simp) (by omega) (by omega) ?_
          intro cap' h1 h2
          refine ⟨_, by simp; rfl, ?_⟩
          refine runA_fin (by simp; rfl) ?_
          refine ⟨H1 ++ [.cells 35 [.lst .nil 1 []], .cells 35 (.lst .nil 1 [] :: repC (cap' - 1) [.lst .nil 1 []])], H1.length + 1, cap', 0, .lst .nil 1 [] :: repC (cap' - 1) [.lst .nil 1 []], .lst .nil 1 [], [], q0 _, q1 _, by omega, by simp, by simp [repC_length]; omega, by omega, rfl, rfl, rfl, .inl ⟨rfl, by rw [bl_new x hm]; rfl, hm⟩, by simp⟩
        · have bnd : ((bl x i).length + 1) * 24 ≤ 140737488355328 := by
            have := bl_length x i
            rw [if_neg (by omega)] at this
            omega
          have hidl : id < H1.length := (List.getElem?_eq_some_iff.1 a4).1
          have q2 : ∀ X, (H1 ++ X)[id]? = some (AObj.cells 35 cs) := fun X => by rw [List.getElem?_append_left hidl]; exact a4
          refine runA_appA (t := 24) (e := 35) (sz := 1) (by_ := 24) (id := id) (len := (bl x i).length) (cap := cap) (m := 1) (cs := cs) (yc := [.lst .nil 1 []]) (by simp) rfl rfl rfl rfl (by simp) (by simp [srcA]) s24 a35 z35 (by simp) (by simp [q2]) (by omega) (by omega) ?_
          intro s1 x1 hq
          obtain ⟨id', cap', cs', h', rfl, rfl, e1, e2, e3, e4, e5, e6, e7⟩ := app35 (y := .lst .nil 1 []) (by simp [q2]) a3 a5 a6 hq
          refine ⟨_, by simp; rfl, ?_⟩
          refine runA_fin (by simp; rfl) ?_
          refine ⟨h', id', cap', (bl x i).length, cs', .lst .nil 1 [], bl x i, by rw [e6]; exact q0 _, by rw [e7]; exact q1 _, e2, e1, e3, e4, ?_, rfl, ?_, .inl ⟨rfl, bl_new x hm, hm⟩, by simp⟩
          · have : cs'.take (bl x i).length = cs.take (bl x i).length := by
              have := congrArg (List.take (bl x i).length) e5
              rw [List.take_take, Nat.min_eq_left (by omega), List.take_append_of_le_length (by simp; omega), List.take_take, Nat.min_self] at this
              exact this
            rw [this]; exact a7
          · have := congrArg (fun l : List AV => l[(bl x i).length]?) e5
            simp only [List.getElem?_take] at this
            rw [if_pos (by omega), List.getElem?_append_right (by simp; omega)] at this
            rw [this]
            rw [List.length_take, Nat.min_eq_left (by omega), Nat.sub_self]
            rfl
      · have hm2 : ¬ ((i % 1024 : Nat) : Int) = 0 := by omega
        have hm3 : (((i % 1024 : Nat) : Int) == 0) = false := beq_false_of_ne hm2
        have hm4 : (((i : Int) % 1024) == 0) = false := by rw [← hm3]; simp
        refine W_evK [1, 2, 7, 8, 9, 10, 11, 39] (by simp [hrem, hm, hm2, hm3, hm4, -Int.natCast_emod]; rfl) ?_
        refine W_cond rfl (fun h => by simp at h) (fun h => ?_)
        refine W_keepS [1, 2, 7, 8, 9, 10, 11] ?_
        refine W_skip ?_
        rcases hy1 with ⟨rfl, _⟩ | ⟨a1, ⟨id, cap, cs, rfl, a3, a4, a5, a6, a7, a8⟩⟩
        · simp at hm
        have hbl := bl_last x a1
        have hlen : (bl x i).length = (i - 1) / 1024 + 1 := by rw [bl_length, if_neg (by omega)]
        rw [hlen] at a6 a7 a8 ⊢
        refine ⟨H1, id, cap, (i - 1) / 1024, cs, _, List.replicate ((i - 1) / 1024) (full x), k0, k1, a3, a4, a5, a6, ?_, by simp, a8, .inr ⟨(i - 1) % 1024 + 1, rfl, by omega, bl_more x hm, by omega⟩, by simp⟩
        have := congrArg (List.take ((i - 1) / 1024)) a7
        rw [← dpL_tk2, List.take_take, Nat.min_eq_left (by omega), hbl] at this
        rw [this]
        simp [bbL]
    rintro _ ⟨H2, id, cap, k, cs, z, pre, m0, m1, m2, m3, m4, m5, m6, m7, m8, m9, rfl⟩
    have hkl : k < cs.length := by omega
    have hkl1 : k + 1 ≤ cs.length := by omega
    have hkc : k + 1 ≤ 1000000000000 ∨ True := .inr trivial
    have hbk : k ≤ 5 := by
      have h1 := bl_length x (i + 1)
      rw [if_neg (by omega)] at h1
      rcases m9 with ⟨_, h2, _⟩ | ⟨b, _, _, h2, _⟩ <;> · rw [h2] at h1; simp at h1; omega
    have wk := w64 (n := (k : Int)) (by omega) (by omega)
    have wk1 : IntKind.i64.wrap ((k : Int) + 1 - 1) = (k : Nat) := by rw [show (k : Int) + 1 - 1 = k by omega]; exact wk
    have hk0 : (k : Int) < k + 1 := by omega
    have hidl : id < H2.length := (List.getElem?_eq_some_iff.1 m3).1
    have hdp : ∀ (D : List AV) (y : AV), AV.dpL D = AV.dpL cs → D.length = cs.length → AV.dpL ((D.set k y).take (k + 1)) = bbL pre ++ [y.dp] := fun D y hD hl => by
      have e : (D.set k y).take (k + 1) = D.take k ++ [y] := by
        rw [List.take_add_one, List.getElem?_set_self (by omega), List.take_set_of_le (Nat.le_refl _)]
        rfl
      rw [e, dpL_app2, dpL_tk2, hD, ← dpL_tk2, m6]
      rfl
    rcases m9 with ⟨rfl, n1, n2⟩ | ⟨b, rfl, nb, n1, n2⟩
    · have m8b : cs[k]'hkl = .lst .nil 1 [] := by rw [List.getElem?_eq_getElem hkl] at m8; exact Option.some.inj m8
      refine W_rE [1, 2, 7, 8, 9, 10, 11] ?_
      refine runA_pre 6 (by simp [wk, wk1]; rfl) rfl ?_
      refine runA_pre 6 (by simp [wk, wk1, hk0, m3, m8, m8b, hkl]; rfl) rfl ?_
      refine runA_fin (by simp [hk0, m3, hkl1]; rfl) ?_
      refine W_evE [1, 2, 7, 8, 9, 10, 11] (by simp [wi]; rfl) ?_
      refine ⟨_, by omega, i + 1, .arr id 0 (k + 1) cap, H2.set id (AObj.cells 35 (setSeg cs k [AV.lst (.tip 5 111) 1 [.v (.int .u8 x.toNat)]])), rfl, by omega, by rw [List.getElem?_set_ne (by omega)]; exact m0, by rw [List.getElem?_set_ne (by omega)]; exact m1, .inr ⟨by omega, ⟨id, cap, _, ?_, m2, List.getElem?_set_self hidl, ?_, ?_, ?_, ?_⟩⟩, by simp⟩
      · rw [n1]; simp [m7]
      · rw [setSeg_length _ _ _ (by simp; omega)]; exact m4
      · rw [n1]; simp [m7]; omega
      · rw [setSeg_one2 _ _ _ hkl, n1]
        have e : (pre ++ [[x]]).length = k + 1 := by simp [m7]
        rw [e, hdp cs _ rfl rfl]
        simp [bbL, byL]
      · rw [setSeg_one2 _ _ _ hkl, n1]
        have e : (pre ++ [[x]]).length - 1 = k := by simp [m7]
        rw [e, List.getElem?_set_self hkl]
        have e2 : (i + 1 - 1) % 1024 + 1 = 1 := by omega
        rw [e2]
        simp [byL]
    · have m8b : cs[k]'hkl = .lst (.tip 5 111) 1 (byL (List.replicate b x)) := by rw [List.getElem?_eq_getElem hkl] at m8; exact Option.some.inj m8
      have bb : (b + 1) * 1 ≤ 140737488355328 := by omega
      have bb2 : b + 1 ≤ 140737488355328 := by omega
      have lkl : k + 1 ≤ (AV.killL 111 cs).length := by rw [killL_length]; omega
      refine W_rE [1, 2, 7, 8, 9, 10, 11] ?_
      refine runA_pre 6 (by simp [wk, wk1]; rfl) rfl ?_
      refine runA_pre 6 (by simp [wk, wk1, hk0, m3, m8, m8b, hkl]; rfl) rfl ?_
      refine runA_fin (by simp [hk0, m3, hkl1, bb, bb2, lkl]; rfl) ?_
      refine W_evE [1, 2, 7, 8, 9, 10, 11] (by simp [wi]; rfl) ?_
      refine ⟨_, by omega, i + 1, .arr id 0 (k + 1) cap, (H2.map (AObj.kill 111)).set id (AObj.cells 35 (setSeg (AV.killL 111 cs) k [AV.lst (.tip 5 111) 1 (byL (List.replicate b x) ++ [.v (.int .u8 x.toNat)])])), rfl, by omega, by rw [List.getElem?_set_ne (by omega)]; simp [m0, dcbC], by rw [List.getElem?_set_ne (by omega)]; simp [m1], .inr ⟨by omega, ⟨id, cap, _, ?_, m2, List.getElem?_set_self (by simpa using hidl), ?_, ?_, ?_, ?_⟩⟩, by simp⟩
      · rw [n1]; simp [m7]
      · rw [setSeg_length _ _ _ (by simp; omega), killL_length]; exact m4
      · rw [n1]; simp [m7]; omega
      · rw [setSeg_one2 _ _ _ (by rw [killL_length]; omega), n1]
        have e : (pre ++ [List.replicate b x ++ [x]]).length = k + 1 := by simp [m7]
        rw [e, hdp _ _ (dpLKill2 111 cs) (killL_length 111 cs)]
        simp [bbL, byL, dpL_app2, dpL_rep]
      · rw [setSeg_one2 _ _ _ (by rw [killL_length]; omega), n1]
        have e : (pre ++ [List.replicate b x ++ [x]]).length - 1 = k := by simp [m7]
        rw [e, List.getElem?_set_self (by rw [killL_length]; omega), ← n2, List.replicate_succ']
        simp [byL]
  have hin : i = n := by omega
  subst hin
  refine W_evK [1, 2, 7, 8, 9, 10, 11, 29] (by simp [c]; rfl) ?_
  refine W_cond rfl (fun h => by simp at h) (fun h => ?_)
  refine W_exit ?_
  rcases hy with ⟨h0, _⟩ | ⟨hi0, ⟨id, cap, cs, rfl, a3, a4, a5, a6, a7, a8⟩⟩
  · omega
  refine W_finB 10 (U := bl x i) rfl a4 a5 a6 a7 (fun H1 hH1 => ?_)
  have b0 : H1[0]? = some (AObj.cells 23 (dcbC d1)) := by rw [hH1 0 (by omega)]; exact g0
  have b1 : H1[1]? = some (AObj.cells 35 (lC i x i)) := by rw [hH1 1 (by omega)]; exact g1
  refine W_finB 9 (U := List.replicate i [x]) (by simp [putF]) b1 (lC_length (Nat.le_refl _)) (by simp) (by rw [List.length_replicate, dpL_tk2, lC_full, List.take_of_length_le (by simp)]) (fun H2 hH2 => ?_)
  have c0 : H2[0]? = some (AObj.cells 23 (dcbC d1)) := by rw [hH2 0 (by omega)]; exact b0
  obtain ⟨L, hL⟩ : ∃ L, List.replicate i [x] = L := ⟨_, rfl⟩
  rw [hL]
  have hLl : L.length = i := by rw [← hL]; simp
  have hLr : ∀ r ∈ L, r.length ≤ 1000000000 := fun r hr => by rw [← hL] at hr; rw [List.eq_of_mem_replicate hr]; simp
  have hB := block_sound d1 L (by omega) hLr
  rw [← hL, block_many x hi0, hL] at hB
  have hB0 := block_sound ⟨0, 0, false, false, 0, 0, 0, 0⟩ L (by omega) hLr
  rw [block_none] at hB0
  obtain ⟨lu, hu1, hu2⟩ := unb_many x hi0
  have hub := unb_bad x hi0
  obtain ⟨S, hS⟩ : ∃ S, bl x i = S := ⟨_, rfl⟩
  have hSl : S.length ≤ 10 := by rw [← hS, bl_length, if_neg (by omega)]; omega
  have hSr : ∀ b ∈ S, b.length ≤ 1024 := fun b hb => by
    rw [← hS, bl_last x hi0] at hb
    rcases List.mem_append.1 hb with h | h
    · rw [List.eq_of_mem_replicate h, full_length]; omega
    · rw [List.mem_singleton.1 h, List.length_replicate]; omega
  rw [hS] at hB hu1 hub ⊢
  have hU := unb_sound d1 S (by omega) (fun r hr => by have := hSr r hr; omega)
  have hUb := unb_sound d1 (S ++ [[]]) (by simp; omega) (fun r hr => by
    rcases List.mem_append.1 hr with h | h
    · have := hSr r h; omega
    · rw [List.mem_singleton.1 h]; simp)
  rw [hu1] at hU
  rw [hub] at hUb
  have hsm := same_sound S S (by omega)
  rw [decide_eq_true rfl] at hsm
  have hsn : AV.dpL (bbL S ++ [.lst .ex 1 []]) = bbL (S ++ [[]]) := by
    have e : bbL (S ++ [[]]) = bbL S ++ [.lst .any 1 (byL [])] := by simp [bbL]
    rw [dpL_app2, e]; simp
  have hbS : (S.length + 1) * 24 ≤ 140737488355328 := by omega
  refine W_evK [2, 7, 8, 9, 10, 12] (by simp [putF]; rfl) ?_
  by_cases hc : 4096 < i
  · have hci : (4096 : Int) < i := by omega
    rw [if_pos hc] at hB hU
    refine W_seq ?_
    refine W_evK [2, 7, 8, 9, 10, 12, 58] (by simp [hci, hc]; rfl) ?_
    refine W_cond rfl (fun h => ?_) (fun h => by simp at h)
    refine W_evE [2, 7, 8, 9, 10, 12] (by simp; rfl) ?_
    refine W_rK [2, 7, 8, 9, 10, 12, 13, 14] ?_
    refine runA_pre 2 (by simp [c0, dcbC]; rfl) rfl ?_
    refine runA_call (by simp) (by first | (simp; done) | (simp; rfl)) hB (by simp [resB]; rfl) ?_
    refine runA_fin (by simp [resB]; rfl) ?_
    refine W_seq ?_
    refine W_rK [2, 7, 8, 9, 10, 12, 86] ?_
    refine runA_pre 6 (by simp; rfl) rfl ?_
    refine runA_pre 6 (by simp; rfl) rfl ?_
    refine runA_pre 6 (by simp; rfl) rfl ?_
    refine runA_fin (by simp; rfl) ?_
    refine W_cond rfl (fun h => by simp at h) (fun h => ?_)
    refine W_skip ?_
    refine W_seq ?_
    refine W_evK [7, 8, 9, 10, 12, 87] (by simp; rfl) ?_
    cases bad
    · refine W_cond rfl (fun h => by simp at h) (fun h => ?_)
      refine W_keepS [7, 8, 9, 10, 12] ?_
      refine W_skip ?_
      refine W_rK [8, 9, 12, 15, 16] ?_
      refine runA_pre 2 (by simp [c0, dcbC]; rfl) rfl ?_
      refine runA_call (by simp) (by first | (simp [hsn]; done) | (simp [hsn]; rfl)) hU (by simp [resB]; rfl) ?_
      refine runA_fin (by simp [resB]; rfl) ?_
      refine W_rK [8, 12, 15, 16, 18] ?_
      refine runA_pre 2 (by simp; rfl) rfl ?_
      refine runA_call (by simp) (by first | (simp; done) | (simp; rfl)) hB0 (by simp [resB]; rfl) ?_
      refine runA_fin (by simp [resB]; rfl) ?_
      refine W_rK [6] ?_
      refine runA_pre 6 (by simp; rfl) rfl ?_
      refine runA_pre 6 (by simp [hu2]; rfl) rfl ?_
      refine runA_pre 6 (by simp; rfl) rfl ?_
      refine runA_call (by simp) (by first | (simp; done) | (simp; rfl)) works_sound (by simp; rfl) ?_
      refine runA_fin (by simp; rfl) ?_
      refine W_ret ?_
      repeat (first | refine on_ret ?_ | refine in_ret ?_)
      simp [retQ]
    · refine W_cond rfl (fun h => ?_) (fun h => by simp at h)
      refine W_evK [7, 8, 9, 10] (by simp [catK, AV.cellsK, AV.kone, AV.koneL, hbS]; rfl) ?_
      refine W_evE [7, 8, 9, 10, 12] (by simp; rfl) ?_
      refine W_rK [8, 9, 12, 15, 16] ?_
      refine runA_pre 2 (by simp [c0, dcbC]; rfl) rfl ?_
      refine runA_call (by simp) (by first | (simp [hsn]; done) | (simp [hsn]; rfl)) hUb (by simp [resB]; rfl) ?_
      refine runA_fin (by simp [resB]; rfl) ?_
      refine W_rK [8, 12, 15, 16, 18] ?_
      refine runA_pre 2 (by simp; rfl) rfl ?_
      refine runA_call (by simp) (by first | (simp; done) | (simp; rfl)) hB0 (by simp [resB]; rfl) ?_
      refine runA_fin (by simp [resB]; rfl) ?_
      refine W_rK [6] ?_
      refine runA_pre 6 (by simp; rfl) rfl ?_
      refine runA_pre 6 (by simp [hu2]; rfl) rfl ?_
      refine runA_pre 6 (by simp; rfl) rfl ?_
      refine runA_call (by simp) (by first | (simp; done) | (simp; rfl)) works_sound (by simp; rfl) ?_
      refine runA_fin (by simp; rfl) ?_
      refine W_ret ?_
      repeat (first | refine on_ret ?_ | refine in_ret ?_)
      simp [retQ]
  · have hci : ¬ (4096 : Int) < i := by omega
    rw [if_neg hc] at hB hU
    refine W_seq ?_
    refine W_evK [2, 7, 8, 9, 10, 12, 58] (by simp [hci, hc]; rfl) ?_
    refine W_cond rfl (fun h => by simp at h) (fun h => ?_)
    refine W_keepS [2, 7, 8, 9, 10, 12] ?_
    refine W_skip ?_
    refine W_rK [2, 7, 8, 9, 10, 12, 13, 14] ?_
    refine runA_pre 2 (by simp [c0, dcbC]; rfl) rfl ?_
    refine runA_call (by simp) (by first | (simp; done) | (simp; rfl)) hB (by simp [resB]; rfl) ?_
    refine runA_fin (by simp [resB]; rfl) ?_
    refine W_seq ?_
    refine W_rK [2, 7, 8, 9, 10, 12, 86] ?_
    refine runA_pre 6 (by simp; rfl) rfl ?_
    refine runA_pre 3 (by simp; rfl) rfl ?_
    refine runA_call (by simp) (by first | (simp; done) | (simp; rfl)) hsm (by simp; rfl) ?_
    refine runA_pre 6 (by simp; rfl) rfl ?_
    refine runA_fin (by simp; rfl) ?_
    refine W_cond rfl (fun h => by simp at h) (fun h => ?_)
    refine W_skip ?_
    refine W_seq ?_
    refine W_evK [7, 8, 9, 10, 12, 87] (by simp; rfl) ?_
    cases bad
    · refine W_cond rfl (fun h => by simp at h) (fun h => ?_)
      refine W_keepS [7, 8, 9, 10, 12] ?_
      refine W_skip ?_
      refine W_rK [8, 9, 12, 15, 16] ?_
      refine runA_pre 2 (by simp [c0, dcbC]; rfl) rfl ?_
      refine runA_call (by simp) (by first | (simp [hsn]; done) | (simp [hsn]; rfl)) hU (by simp [resB]; rfl) ?_
      refine runA_fin (by simp [resB]; rfl) ?_
      refine W_rK [8, 12, 15, 16, 18] ?_
      refine runA_pre 2 (by simp; rfl) rfl ?_
      refine runA_call (by simp) (by first | (simp; done) | (simp; rfl)) hB0 (by simp [resB]; rfl) ?_
      refine runA_fin (by simp [resB]; rfl) ?_
      refine W_rK [6] ?_
      refine runA_pre 6 (by simp; rfl) rfl ?_
      refine runA_pre 6 (by simp [hu2]; rfl) rfl ?_
      refine runA_pre 6 (by simp; rfl) rfl ?_
      refine runA_call (by simp) (by first | (simp; done) | (simp; rfl)) works_sound (by simp; rfl) ?_
      refine runA_fin (by simp; rfl) ?_
      refine W_ret ?_
      repeat (first | refine on_ret ?_ | refine in_ret ?_)
      simp [retQ]
    · refine W_cond rfl (fun h => ?_) (fun h => by simp at h)
      refine W_evK [7, 8, 9, 10] (by simp [catK, AV.cellsK, AV.kone, AV.koneL, hbS]; rfl) ?_
      refine W_evE [7, 8, 9, 10, 12] (by simp; rfl) ?_
      refine W_rK [8, 9, 12, 15, 16] ?_
      refine runA_pre 2 (by simp [c0, dcbC]; rfl) rfl ?_
      refine runA_call (by simp) (by first | (simp [hsn]; done) | (simp [hsn]; rfl)) hUb (by simp [resB]; rfl) ?_
      refine runA_fin (by simp [resB]; rfl) ?_
      refine W_rK [8, 12, 15, 16, 18] ?_
      refine runA_pre 2 (by simp; rfl) rfl ?_
      refine runA_call (by simp) (by first | (simp; done) | (simp; rfl)) hB0 (by simp [resB]; rfl) ?_
      refine runA_fin (by simp [resB]; rfl) ?_
      refine W_rK [6] ?_
      refine runA_pre 6 (by simp; rfl) rfl ?_
      refine runA_pre 6 (by simp [hu2]; rfl) rfl ?_
      refine runA_pre 6 (by simp; rfl) rfl ?_
      refine runA_call (by simp) (by first | (simp; done) | (simp; rfl)) works_sound (by simp; rfl) ?_
      refine runA_fin (by simp; rfl) ?_
      refine W_ret ?_
      repeat (first | refine on_ret ?_ | refine in_ret ?_)
      simp [retQ]
end Go.AM
