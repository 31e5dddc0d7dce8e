/- The specification's Tracks. -/
import Derived.Test.YtonckolkghbcbaaC38Y
import Derived.Test.YtonckolkghbcbaaC38K
namespace Go.AM
open Go.RowKit Go.Proofs
set_option linter.unusedSimpArgs false
set_option linter.unusedVariables false
set_option maxHeartbeats 1000000

theorem number36t (n : Nat) (hn : n ≤ 9223372036854775807) : Sound Try.prog 36 [.v (.int .i64 n)] (.lst (.tip 5 1) 1 (byL (be4 n))) := by
  refine sound_of_U Try.func36 rfl (by decide +kernel) (by simp [Try.f36]) rfl rfl (rs := [.tmp 2]) rfl ?_
  rw [show Try.f36.ntmps = 18 from rfl]
  have q (k : Nat) : ((n : Int).tdiv (k : Nat)) = ((n / k : Nat) : Int) := by
    rw [Int.tdiv_eq_ediv_of_nonneg (by omega)]; rfl
  have t (k : Nat) : ((k : Int).tmod 256) = ((k % 256 : Nat) : Int) := by rw [Int.tmod_eq_emod_of_nonneg (by omega)]; omega
  have q1 : (n : Int).tdiv 16777216 = ((n / 16777216 : Nat) : Int) := q 16777216
  have q2 : (n : Int).tdiv 65536 = ((n / 65536 : Nat) : Int) := q 65536
  have q3 : (n : Int).tdiv 256 = ((n / 256 : Nat) : Int) := q 256
  have w1 : IntKind.i64.wrap ((n / 16777216 : Nat) : Int) = ((n / 16777216 : Nat) : Int) := w64 (by omega) (by omega)
  have w2 : IntKind.i64.wrap ((n / 65536 : Nat) : Int) = ((n / 65536 : Nat) : Int) := w64 (by omega) (by omega)
  have w3 : IntKind.i64.wrap ((n / 256 : Nat) : Int) = ((n / 256 : Nat) : Int) := w64 (by omega) (by omega)
  have h1 := u8w (n / 16777216)
  have h2 := u8w (n / 65536 % 256)
  have h3 := u8w (n / 256 % 256)
  have h4 := u8w (n % 256)
  rw [u8m] at h2 h3 h4
  refine W_evK [0] (by simp; rfl) ?_
  refine W_rK [2] ?_
  refine runA_pre 3 (by simp [q1, w1, h1, -Int.natCast_ediv]; rfl) rfl ?_
  refine runA_pre 4 (by simp [q2, w2, t, h2, -Int.natCast_ediv, -Int.natCast_emod]; rfl) rfl ?_
  refine runA_pre 4 (by simp [q3, w3, t, h3, -Int.natCast_ediv, -Int.natCast_emod]; rfl) rfl ?_
  refine runA_pre 3 (by simp [t, h4, -Int.natCast_ediv, -Int.natCast_emod]; rfl) rfl ?_
  refine runA_fin (by simp; rfl) ?_
  refine W_ret ?_
  repeat (first | refine on_ret ?_ | refine in_ret ?_)
  exact ⟨_, by simp [retQ]; exact ⟨rfl, by simp⟩, .norm fun T => by simp [be4, byL]⟩

def tkE (m seq : Nat) (state : List UInt8) (i : Nat) : AV := if i + 1 = m then .lst .any 4 (trL [pcM seq state i, hdR seq state.length]) else .lst .ex 4 (trL [pcM seq state i])
def tkEs (m seq : Nat) (state : List UInt8) (i : Nat) : List AV := (List.range i).map (tkE m seq state)
theorem tkEs_succ (m seq : Nat) (state : List UInt8) (i : Nat) : tkEs m seq state (i + 1) = tkEs m seq state i ++ [tkE m seq state i] := by simp [tkEs, List.range_succ]
@[simp] theorem tkEs_length (m seq : Nat) (state : List UInt8) (i : Nat) : (tkEs m seq state i).length = i := by simp [tkEs]
theorem dpL_map {β : Type} (f g : β → AV) (h : ∀ b, (f b).dp = g b) : ∀ l : List β, AV.dpL (l.map f) = l.map g
  | [] => rfl
  | b :: l => by simp [AV.dpL, h, dpL_map f g h l]
theorem dpL_tkEs (m seq : Nat) (state : List UInt8) : AV.dpL (tkEs m seq state m) = arL (tksM m seq state) := by
  unfold tkEs tksM arL
  rw [dpL_map _ (fun i => if i + 1 = m then .lst .any 4 (trL [pcM seq state i, hdR seq state.length]) else .lst .any 4 (trL [pcM seq state i])), List.map_map]
  · refine List.map_congr_left fun i _ => ?_
    simp only [Function.comp]
    split <;> rfl
  · intro i
    unfold tkE
    split <;> simp [AV.dp]
def dtM (seq : Nat) (state : List UInt8) (i k : Nat) : List UInt8 := be4 seq ++ (state.take k).drop (i * 1960)
theorem dtM_succ {seq : Nat} {state : List UInt8} {i k : Nat} {b : UInt8} (h : state[k]? = some b) (hk : i * 1960 ≤ k) : dtM seq state i (k + 1) = dtM seq state i k ++ [b] := by
  have hlt := (List.getElem?_eq_some_iff.1 h).1
  unfold dtM
  rw [List.take_add_one, h, List.append_assoc]
  congr 1
  rw [List.drop_append_of_le_length (by simp; omega)]
  rfl
theorem dtM_end {seq : Nat} {state : List UInt8} {i k : Nat} (h1 : i * 1960 ≤ k) (h2 : k ≤ (i + 1) * 1960) (h3 : k = (i + 1) * 1960 ∨ state.length ≤ k) : dtM seq state i k = (pcM seq state i).data := by
  unfold dtM pcM
  simp only
  congr 1
  rcases Nat.lt_or_ge (i * 1960) state.length with h | h
  · have e1 : min (i * 1960) state.length = i * 1960 := by omega
    rw [e1]
    congr 1
    rcases Nat.lt_or_ge state.length k with h4 | h4
    · rw [List.take_of_length_le (by omega), List.take_of_length_le (by omega)]
    · congr 1; omega
  · have e1 : min (i * 1960) state.length = state.length := by omega
    rw [e1, List.drop_eq_nil_of_le (by simp; omega), List.drop_eq_nil_of_le (by simp)]

theorem tracks_sound (m seq : Nat) (state : List UInt8) (hm : m ≤ 100000) (hseq : seq ≤ 9223372036854775807) (hst : state.length ≤ 100000000) : Sound Try.prog 30 [.v (.int .i64 m), .v (.int .i64 seq), .lst .any 1 (byL state)] (.lst .any 1 (arL (tksM m seq state))) := by
  refine sound_of_U Try.func30 rfl (by decide +kernel) (by simp [Try.f30]) rfl rfl (rs := [.tmp 6]) rfl ?_
  rw [show Try.f30.ntmps = 67 from rfl]
  refine W_evK [0, 1, 2] (by simp; rfl) ?_
  refine W_evK [0, 1, 2, 7] (by simp; rfl) ?_
  refine W_seq ?_
  refine W_evK [0, 1, 2, 7, 8] (by simp; rfl) ?_
  refine W_block ?_
  refine W_loop (fun k s => ∃ (i : Nat) (x : AV), k = m - i ∧ i ≤ m ∧ ((i = 0 ∧ x = .lst .nil 1 []) ∨ (0 < i ∧ x = .lst (.tip 28 131) 1 (tkEs m seq state i))) ∧
    s = ⟨67, [(0, .v (.int .i64 m)), (1, .v (.int .i64 seq)), (2, .lst .any 1 (byL state)), (7, x), (8, .v (.int .i64 i))], []⟩) (k := m) ⟨0, _, by simp, by omega, .inl ⟨rfl, rfl⟩, by simp⟩ ?_
  rintro k s ⟨i, x, rfl, hi, hx, rfl⟩
  refine W_seq ?_
  by_cases c : i < m
  rotate_left
  · have hie : i = m := by omega
    subst hie
    refine W_evK [0, 1, 2, 7, 8, 15] (by simp; rfl) ?_
    refine W_cond rfl (fun h => by simp at h) (fun h => ?_)
    refine W_exit ?_
    refine W_evK [6] (by simp; rfl) ?_
    refine W_ret ?_
    repeat (first | refine on_ret ?_ | refine in_ret ?_)
    rcases hx with ⟨h0, rfl⟩ | ⟨h0, rfl⟩
    · subst h0
      exact ⟨.lst .nil 1 [], by simp [retQ], .plain _⟩
    · refine ⟨.lst (.tip 28 131) 1 (tkEs i seq state i), ?_, ?_⟩
      · have hrf : AV.rfL (tkEs i seq state i) = true := by
          have : ∀ l : List Nat, AV.rfL (l.map (tkE i seq state)) = true := fun l => by
            induction l with
            | nil => rfl
            | cons a l ih =>
              have : (tkE i seq state a).rf = true := by unfold tkE; split <;> simp [AV.rf]
              simp [AV.rfL, this, ih]
          exact this _
        simp [retQ, AV.rf, hrf]
      · have := AV.Le.dp (P := Try.prog) (.lst (.tip 28 131) 1 (tkEs i seq state i))
        simpa only [AV.dp, dpL_tkEs] using this
  have ci : (i : Int) < m := by omega
  have hnt := number36t seq hseq
  refine W_evK [0, 1, 2, 7, 8, 15] (by simp [c]; rfl) ?_
  refine W_cond rfl (fun h => ?_) (fun h => by simp at h)
  refine W_skip ?_
  refine W_seq ?_
  refine W_block ?_
  refine W_rK [0, 1, 2, 7, 8, 9] ?_
  refine runA_pre 1 (by simp; rfl) rfl ?_
  refine runA_call (by simp) (by first | (simp; done) | (simp; rfl)) hnt (by simp; rfl) ?_
  refine runA_fin (by simp; rfl) ?_
  refine W_seq ?_
  have w1 : IntKind.i64.wrap ((i : Int) * 1960) = ((i * 1960 : Nat) : Int) := by rw [w64 (by omega) (by omega)]; omega
  have wi := w64 (n := (i : Int) + 1) (by omega) (by omega)
  have w2 : IntKind.i64.wrap (((i : Int) + 1) * 1960) = (((i + 1) * 1960 : Nat) : Int) := by rw [w64 (by omega) (by omega)]; omega
  refine W_evK [0, 1, 2, 7, 8, 9, 10] (by simp only [keepS_mk]; simp [w1, -Int.natCast_mul]; rfl) ?_
  have hkx : ∀ T, T ≠ 131 → AV.kill T x = x := by
    intro T hT
    rcases hx with ⟨_, rfl⟩ | ⟨_, rfl⟩
    · simp [AV.kill]
    · simp [AV.kill]
      intro h; omega
  refine W_block ?_
  refine W_loop (fun z s => ∃ k : Nat, z = (i + 1) * 1960 - k ∧ i * 1960 ≤ k ∧ k ≤ (i + 1) * 1960 ∧
    s = ⟨67, [(0, .v (.int .i64 m)), (1, .v (.int .i64 seq)), (2, .lst .any 1 (byL state)), (7, x), (8, .v (.int .i64 i)), (9, .lst (.tip 5 39) 1 (byL (dtM seq state i k))), (10, .v (.int .i64 k))], []⟩) (k := (i + 1) * 1960 - i * 1960)
    ⟨i * 1960, rfl, by omega, by omega, by simp [dtM, List.drop_eq_nil_of_le]⟩ ?_
  rintro z s ⟨k, rfl, hk1, hk2, rfl⟩
  have wk := w64 (n := (k : Int) + 1) (by omega) (by omega)
  have hdl : (dtM seq state i k).length ≤ 4 + state.length := by simp [dtM]; omega
  refine W_seq ?_
  by_cases e : k < (i + 1) * 1960 ∧ k < state.length
  · obtain ⟨e1, e2⟩ := e
    have e1i : (k : Int) < (((i + 1) * 1960 : Nat) : Int) := by omega
    have e2i : (k : Int) < state.length := by omega
    obtain ⟨b, hb⟩ : ∃ b, state[k]? = some b := ⟨_, List.getElem?_eq_getElem e2⟩
    have hb2 : state[k]'e2 = b := by rw [List.getElem?_eq_getElem e2] at hb; exact Option.some.inj hb
    have b1 : (dtM seq state i k).length + 1 ≤ 140737488355328 := by omega
    refine W_evK [0, 1, 2, 7, 8, 9, 10, 32] (by simp [wi, w2, e1, e2, -Int.natCast_mul]; rfl) ?_
    refine W_cond rfl (fun h => ?_) (fun h => by simp at h)
    refine W_skip ?_
    refine W_seq ?_
    refine W_block ?_
    refine W_evE [0, 1, 2, 7, 8, 9, 10] (by simp [e2, e2i, hb2, b1, catK, AV.cellsK, AV.kone]; rfl) ?_
    refine W_evE [0, 1, 2, 7, 8, 9, 10] (by simp [wk]; rfl) ?_
    exact ⟨_, by omega, k + 1, rfl, by omega, by omega, by rw [dtM_succ hb hk1]; simp [byL_append, byL_cons, hkx 39 (by omega)]⟩
  have hD : dtM seq state i k = (pcM seq state i).data := dtM_end hk1 hk2 (by
    rcases Nat.lt_or_ge k ((i + 1) * 1960) with h1 | h1
    · exact .inr (Nat.le_of_not_lt fun h2 => e ⟨h1, h2⟩)
    · exact .inl (by omega))
  rw [hD]
  have hpl := pc_len seq state i
  have hpc : recA (pcM seq state i) = .agg [.v (.int .i64 1), .lst .any 1 [], .lst .any 1 (byL (pcM seq state i).data), .v (.bool false)] := rfl
  obtain ⟨pc, hpcE⟩ : ∃ pc, (pcM seq state i).data = pc := ⟨_, rfl⟩
  rw [hpcE] at hpc hpl ⊢
  refine W_evK [0, 1, 2, 7, 8, 9, 10, 32] (s' := ⟨67, [(0, .v (.int .i64 m)), (1, .v (.int .i64 seq)), (2, .lst .any 1 (byL state)), (7, x), (8, .v (.int .i64 i)), (9, .lst (.tip 5 39) 1 (byL pc)), (10, .v (.int .i64 k)), (32, .v (.bool false))], []⟩) (by
    by_cases e1 : k < (i + 1) * 1960
    · have e2 : ¬ k < state.length := fun e2 => e ⟨e1, e2⟩
      simp [wi, w2, e1, e2, -Int.natCast_mul]
    · simp [wi, w2, e1, -Int.natCast_mul]) ?_
  refine W_cond rfl (fun h => by simp at h) (fun h => ?_)
  refine W_exit ?_
  refine W_evK [0, 1, 2, 7, 8, 11] (by simp [setSeg, catK, AV.cellsK, AV.kone, AV.koneL]; rfl) ?_
  refine W_seq ?_
  have wm : IntKind.i64.wrap ((m : Int) - 1) = (m : Int) - 1 := w64 (by omega) (by omega)
  by_cases f : i + 1 = m
  · have f' : ((i : Int) == (m : Int) - 1) = true := by simp; omega
    refine W_evK [0, 1, 2, 7, 8, 11, 48] (by simp only [keepS_mk]; simp [wm, f']; rfl) ?_
    refine W_cond rfl (fun h => ?_) (fun h => by simp at h)
    have hnt2 := number36t state.length (by omega)
    have hhd : byL (hdM seq state.length) = [.v (.int .u8 195), .v (.int .u8 210), .v (.int .u8 215), .v (.int .u8 227)] ++ byL (be4 seq) ++ byL (be4 state.length) := by
      unfold hdM; rw [byL_append, byL_append]; rfl
    have hE : tkE m seq state i = .lst .any 4 [.agg [.v (.int .i64 1), .lst .any 1 [], .lst .any 1 (byL pc), .v (.bool false)], .agg [.v (.int .i64 2), .lst .any 1 [], .lst .any 1 (byL (hdM seq state.length)), .v (.bool false)]] := by
      unfold tkE; rw [if_pos f, trL_cons, trL_cons, hpc]; rfl
    rw [hhd] at hE
    have b1 : (i + 1) * 24 ≤ 140737488355328 := by omega
    have b2 : 24 * (i + 1) ≤ 140737488355328 := by omega
    rcases hx with ⟨h0, rfl⟩ | ⟨h0, rfl⟩
    · subst h0
      refine W_rK [0, 1, 2, 7, 8, 11, 12] ?_
      refine runA_pre 2 (by simp [catK, AV.cellsK, AV.kone]; rfl) rfl ?_
      refine runA_call (by simp) (by first | (simp; done) | (simp; rfl)) hnt (by simp; rfl) ?_
      refine runA_fin (by simp; rfl) ?_
      refine W_rE [0, 1, 2, 7, 8, 11] ?_
      refine runA_pre 4 (by simp; rfl) rfl ?_
      refine runA_call (by simp) (by first | (simp; done) | (simp; rfl)) hnt2 (by simp; rfl) ?_
      refine runA_pre 1 (by simp; rfl) rfl ?_
      refine runA_fin (by simp [setSeg, catK, AV.cellsK, AV.kone, AV.koneL]; rfl) ?_
      refine W_evE [0, 1, 2, 7, 8] (by simp [catK, AV.cellsK, AV.kone]; rfl) ?_
      refine W_evE [0, 1, 2, 7, 8] (by simp [show IntKind.i64.wrap 1 = 1 from rfl]; rfl) ?_
      exact ⟨_, by omega, 1, _, rfl, by omega, .inr ⟨by omega, rfl⟩, by simp [tkEs, hE]⟩
    · refine W_rK [0, 1, 2, 7, 8, 11, 12] ?_
      refine runA_pre 2 (by simp [catK, AV.cellsK, AV.kone]; rfl) rfl ?_
      refine runA_call (by simp) (by first | (simp; done) | (simp; rfl)) hnt (by simp; rfl) ?_
      refine runA_fin (by simp; rfl) ?_
      refine W_rE [0, 1, 2, 7, 8, 11] ?_
      refine runA_pre 4 (by simp; rfl) rfl ?_
      refine runA_call (by simp) (by first | (simp; done) | (simp; rfl)) hnt2 (by simp; rfl) ?_
      refine runA_pre 1 (by simp; rfl) rfl ?_
      refine runA_fin (by simp [setSeg, catK, AV.cellsK, AV.kone, AV.koneL]; rfl) ?_
      refine W_evE [0, 1, 2, 7, 8] (by simp [catK, AV.cellsK, AV.kone, b1, b2]; rfl) ?_
      refine W_evE [0, 1, 2, 7, 8] (by simp [wi]; rfl) ?_
      exact ⟨_, by omega, i + 1, _, rfl, by omega, .inr ⟨by omega, rfl⟩, by rw [tkEs_succ, hE]; simp⟩
  · have f' : ((i : Int) == (m : Int) - 1) = false := by simp; omega
    refine W_evK [0, 1, 2, 7, 8, 11, 48] (by simp only [keepS_mk]; simp [wm, f']; rfl) ?_
    refine W_cond rfl (fun h => by simp at h) (fun h => ?_)
    refine W_skip ?_
    have hE : tkE m seq state i = .lst .ex 4 [.agg [.v (.int .i64 1), .lst .any 1 [], .lst .any 1 (byL pc), .v (.bool false)]] := by
      unfold tkE; rw [if_neg f, trL_cons, hpc]; rfl
    have b1 : (i + 1) * 24 ≤ 140737488355328 := by omega
    have b2 : 24 * (i + 1) ≤ 140737488355328 := by omega
    rcases hx with ⟨h0, rfl⟩ | ⟨h0, rfl⟩
    · subst h0
      refine W_evE [0, 1, 2, 7, 8] (by simp [catK, AV.cellsK, AV.kone]; rfl) ?_
      refine W_evE [0, 1, 2, 7, 8] (by simp [show IntKind.i64.wrap 1 = 1 from rfl]; rfl) ?_
      exact ⟨_, by omega, 1, _, rfl, by omega, .inr ⟨by omega, rfl⟩, by simp [tkEs, hE]⟩
    · refine W_evE [0, 1, 2, 7, 8] (by simp [catK, AV.cellsK, AV.kone, b1, b2]; rfl) ?_
      refine W_evE [0, 1, 2, 7, 8] (by simp [wi]; rfl) ?_
      exact ⟨_, by omega, i + 1, _, rfl, by omega, .inr ⟨by omega, rfl⟩, by rw [tkEs_succ, hE]; simp⟩
end Go.AM
