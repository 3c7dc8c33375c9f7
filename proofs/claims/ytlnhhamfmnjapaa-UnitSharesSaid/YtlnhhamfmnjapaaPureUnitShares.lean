/- UnitShares holds: what is shared is all of it, where a weight is above 0; no part has another sign; equal weights differ by one unit at most; who has no weight has nothing. For any number and any row; no condition. -/
import Derived.Test.YtlnhhamfmnjapaaVUnitShares
namespace Go.Proofs.Ytlnhhamfmnjapaa.Pure
open Go.RowKit Go.Proofs.Ytlnhhamfmnjapaa.PUnitShares Go.Proofs.YtlnhhamfmnjapaaW.PrintWords Go.Proofs.YtlnhhamfmnjapaaW.PrintLast Go.Proofs.YtlnhhamfmnjapaaW.PrintMore
open Go.Proofs.Ytlnhhamfmnjapaa.PUnitShares.U
set_option linter.unusedVariables false

/-- What is known of the parts. -/
structure Facts (n : Int) (ws p : List Int) : Prop where
  n0 : -1152921504606846976 ≤ n
  n1 : n ≤ 1152921504606846976
  len : ws.length ≤ 40
  pos : ∀ x ∈ ws, 0 ≤ x ∧ x ≤ 1125899906842624
  plen : p.length = ws.length
  get : ∀ i (h : i < ws.length) (h' : i < p.length), p[i] = n * total (ws.take (i + 1)) / total ws - n * total (ws.take i) / total ws

variable {n : Int} {ws p : List Int}
theorem Facts.q_bd (f : Facts n ws p) (i : Nat) : -1152921504606846976 ≤ n * total (ws.take i) / total ws ∧ n * total (ws.take i) / total ws ≤ 1152921504606846976 := by
  have h := total_take_le (ws := ws) (fun x hx => (f.pos x hx).1) i
  exact ratio_bd f.n0 f.n1 h.1 h.2
theorem Facts.step (f : Facts n ws p) {i : Nat} (h : i < ws.length) : total (ws.take (i + 1)) = total (ws.take i) + ws[i] ∧ 0 ≤ ws[i] ∧ ws[i] ≤ 1125899906842624 :=
  ⟨total_take_succ ws i h, f.pos _ (List.getElem_mem h)⟩
theorem Facts.total0 (f : Facts n ws p) : 0 ≤ total ws := total_nonneg (fun x hx => (f.pos x hx).1)
theorem Facts.sign_pos (f : Facts n ws p) {i : Nat} (h : i < ws.length) (hp : i < p.length) (hn : 0 ≤ n) : 0 ≤ p[i] := by
  rw [f.get i h hp]
  have ⟨a, b, _⟩ := f.step h
  by_cases hz : total ws = 0
  · rw [hz, Int.ediv_zero, Int.ediv_zero]; decide
  have := Int.ediv_le_ediv (c := total ws) (by have := f.total0; omega) (Int.mul_le_mul_of_nonneg_left (show total (ws.take i) ≤ total (ws.take (i + 1)) by omega) hn)
  omega
theorem Facts.sign_neg (f : Facts n ws p) {i : Nat} (h : i < ws.length) (hp : i < p.length) (hn : n ≤ 0) : p[i] ≤ 0 := by
  rw [f.get i h hp]
  have ⟨a, b, _⟩ := f.step h
  by_cases hz : total ws = 0
  · rw [hz, Int.ediv_zero, Int.ediv_zero]; decide
  have := Int.ediv_le_ediv (c := total ws) (by have := f.total0; omega) (Int.mul_le_mul_of_nonpos_left hn (show total (ws.take i) ≤ total (ws.take (i + 1)) by omega))
  omega
theorem Facts.none (f : Facts n ws p) {i : Nat} (h : i < ws.length) (hp : i < p.length) (hw : ws[i] = 0) : p[i] = 0 := by
  rw [f.get i h hp]
  have ⟨a, _⟩ := f.step h
  rw [a, hw, Int.add_zero]; omega
/-- The part of a weight lies between two neighbours. -/
theorem Facts.near (f : Facts n ws p) {i : Nat} (h : i < ws.length) (hp : i < p.length) : n * ws[i] / total ws ≤ p[i] ∧ p[i] ≤ n * ws[i] / total ws + 1 := by
  rw [f.get i h hp]
  have ⟨a, _⟩ := f.step h
  by_cases hz : total ws = 0
  · rw [hz, Int.ediv_zero, Int.ediv_zero, Int.ediv_zero]; decide
  have ⟨b, c⟩ := floor_add (n * total (ws.take i)) (n * ws[i]) (total ws) (by have := f.total0; omega)
  rw [a, Int.mul_add]; omega
theorem Facts.alike (f : Facts n ws p) {i j : Nat} (h : i < ws.length) (hp : i < p.length) (g : j < ws.length) (gp : j < p.length) (e : ws[j] = ws[i]) : -1 ≤ p[j] - p[i] ∧ p[j] - p[i] ≤ 1 := by
  have a := f.near h hp
  have b := f.near g gp
  rw [e] at b
  omega
theorem Facts.bd (f : Facts n ws p) {i : Nat} (h : i < ws.length) (hp : i < p.length) : -2305843009213693952 ≤ p[i] ∧ p[i] ≤ 2305843009213693952 := by
  rw [f.get i h hp]
  have a := f.q_bd i
  have b := f.q_bd (i + 1)
  omega

theorem l1_ok (f : Facts n ws p) (s : Int) (b : Bool) (i : Nat) (hi : i < ws.length) (k : Nat) : ∀ (d j : Nat), i - j = d → j ≤ i →
    quoinlaw1_UnitShares.l1 (k + d + 1) n ws p s b i j = quoinlaw1_UnitShares.l0 k n ws p s b ((i + 1 : Nat) : Int) := by
  intro d
  induction d with
  | zero =>
    intro j hd hj
    have ll := f.len
    simp only [quoinlaw1_UnitShares.l1]
    rw [if_neg (by omega), w64 (x := (i : Int) + 1) (by omega) (by omega), show ((i : Int) + 1) = ((i + 1 : Nat) : Int) from by omega]
  | succ d ih =>
    intro j hd hj
    have e := ih (j + 1) (by omega) (by omega)
    have l := f.plen; have ll := f.len
    have hp : i < p.length := by omega
    have gp : j < p.length := by omega
    have g : j < ws.length := by omega
    rw [show k + (d + 1) + 1 = (k + d + 1) + 1 from by omega]
    generalize k + d + 1 = kk at *
    simp only [quoinlaw1_UnitShares.l1]
    rw [rd_lt hp, rd_lt gp, rd_lt hi, rd_lt g, if_pos (by omega), if_pos (by omega), if_pos (by omega), if_pos (by omega), if_pos (by omega), if_pos (by omega), if_pos (by omega)]
    have b1 := f.bd hi hp
    have b2 := f.bd g gp
    rw [w64 (x := p[j] - p[i]) (by omega) (by omega), w64 (x := (j : Int) + 1) (by omega) (by omega), show ((j : Int) + 1) = ((j + 1 : Nat) : Int) from by omega, e]
    by_cases q : ws[j] = ws[i]
    · have a := f.alike hi hp g gp q
      rw [if_pos q, if_neg (by omega), if_neg (by omega)]
    · rw [if_neg q]
theorem j1_ok (f : Facts n ws p) (s : Int) (b : Bool) (i : Nat) (hi : i < ws.length) (k : Nat) :
    quoinlaw1_UnitShares.j1 (k + 1) n ws p s b i = quoinlaw1_UnitShares.j2 k n ws p s b i false := by
  have l := f.plen; have ll := f.len
  have hp : i < p.length := by omega
  simp only [quoinlaw1_UnitShares.j1]
  rw [rd_lt hp, rd_lt hi]
  have a1 : (0 : Int) ≤ (i : Int) := by omega
  have a2 : (i : Int) < (p.length : Int) := by omega
  have a3 : (i : Int) < (ws.length : Int) := by omega
  simp only [if_pos a1, if_pos a2, if_pos a3]
  have z := f.none hi hp
  by_cases hw : ws[i] = 0
  · have e := z hw
    simp only [hw, e, if_true]
    by_cases h0 : n ≥ 0
    · rw [if_pos h0]
      by_cases h1 : n ≤ 0
      · rw [if_pos h1]; rfl
      · rw [if_neg h1]; rfl
    · rw [if_neg h0, if_pos (by omega)]; rfl
  · simp only [if_neg hw]
    by_cases h0 : n ≥ 0
    · have c := f.sign_pos hi hp h0
      rw [if_pos h0, if_neg (by omega)]
      by_cases h1 : n ≤ 0
      · have c' := f.sign_neg hi hp h1
        rw [if_pos h1, if_neg (by omega)]
      · rw [if_neg h1]
    · have c' := f.sign_neg hi hp (by omega)
      rw [if_neg h0, if_pos (by omega), if_neg (by omega)]
theorem l0_ok (f : Facts n ws p) : ∀ (d i : Nat), ws.length - i = d → i ≤ ws.length → ∃ K, ∀ k, K ≤ k → quoinlaw1_UnitShares.l0 k n ws p (n * total (ws.take i) / total ws) (decide (0 < total (ws.take i))) i = some true := by
  intro d
  induction d with
  | zero =>
    intro i hd hi
    have : i = ws.length := by omega
    subst this
    refine ⟨40, fun k hk => ?_⟩
    obtain ⟨k, rfl⟩ : ∃ m, k = m + 1 := ⟨k - 1, by omega⟩
    simp only [quoinlaw1_UnitShares.l0]
    rw [if_neg (by omega), List.take_length]
    by_cases h : 0 < total ws
    · rw [if_pos (decide_eq_true h), if_pos (Int.mul_ediv_cancel _ (by omega)), awake_true _ (by omega)]; rfl
    · have : total ws = 0 := by have := f.total0; omega
      rw [if_neg (by simp [this]), this, Int.ediv_zero, if_pos rfl, awake_true _ (by omega)]; rfl
  | succ d ih =>
    intro i hd hi
    obtain ⟨K, hK⟩ := ih (i + 1) (by omega) (by omega)
    have l := f.plen; have ll := f.len
    have hi' : i < ws.length := by omega
    have hp : i < p.length := by omega
    have ⟨s1, s2, s3⟩ := f.step hi'
    have g := f.get i hi' hp
    have q := f.q_bd (i + 1)
    have nn := (total_take_le (ws := ws) (fun x hx => (f.pos x hx).1) i).1
    refine ⟨K + i + 10, fun k hk => ?_⟩
    obtain ⟨k, rfl⟩ : ∃ m, k = m + 1 + 1 + 1 + 1 := ⟨k - 4, by omega⟩
    obtain ⟨m, hm⟩ : ∃ m, k + 1 = m + i + 1 := ⟨k - i, by omega⟩
    have J : ∀ b, b = decide (0 < total (ws.take (i + 1))) → quoinlaw1_UnitShares.j1 (k + 1 + 1 + 1) n ws p (wrap64 (n * total (ws.take i) / total ws + p[i])) b i = some true := by
      intro b hb
      rw [j1_ok f _ _ i hi', w64 (x := n * total (ws.take i) / total ws + p[i]) (by omega) (by omega)]
      simp only [quoinlaw1_UnitShares.j2]
      rw [if_neg (by simp), hm]
      have := l1_ok f (n * total (ws.take i) / total ws + p[i]) b i hi' m i 0 (by omega) (by omega)
      rw [show ((0 : Nat) : Int) = 0 from rfl] at this
      rw [this, hb, show n * total (ws.take i) / total ws + p[i] = n * total (ws.take (i + 1)) / total ws from by omega]
      exact hK m (by omega)
    simp only [quoinlaw1_UnitShares.l0]
    rw [rd_lt hp, rd_lt hi', if_pos (by omega), if_pos (by omega), if_pos (by omega)]
    by_cases h : 0 < total (ws.take i)
    · rw [if_pos (decide_eq_true h)]
      exact J true (by simp; omega)
    · rw [if_neg (by simp [h])]
      exact J _ (by rw [s1, show total (ws.take i) = 0 from by omega, Int.zero_add])

theorem UnitShares : quoinlaw1_UnitShares.Pure := by
  intro a0 l1 _ hl _ _
  obtain ⟨n, hn, n0, n1⟩ := Tame_some a0 1152921504606846976 (by decide) (by decide)
  have hl' : l1.length ≤ 9000000000000000000 := by unfold maxLen at hl; omega
  obtain ⟨ws, hw, wl, wp⟩ := Weights_some l1 hl' 41 (by decide)
  have f : Facts n ws (share n ws) := ⟨n0, n1, wl, wp, share_length n ws, fun i h _ => share_get n ws i h⟩
  obtain ⟨K, hK⟩ := l0_ok f ws.length 0 (by omega) (by omega)
  refine ⟨K + 100, ?_⟩
  obtain ⟨ws', hw', _⟩ := Weights_some l1 hl' (K + 100) (by omega)
  have : ws' = ws := by
    have := at_rounds (g := fun k => quoinlaw1_Weights.f k l1) (fun k => quoinlaw1_Weights.mono l1 k) (show 41 ≤ K + 100 by omega) hw
    simp only [hw', Option.some.injEq] at this
    exact this
  subst this
  unfold quoinlaw1_UnitShares.f
  rw [hn, hw']
  simp only [Option.bind_some]
  rw [Share_eq n n0 n1 ws' (by omega) wp (K + 100) (by omega)]
  simp only [Option.bind_some]
  rw [if_pos (by rw [share_length])]
  have := hK (K + 100) (by omega)
  rw [List.take_zero] at this
  simpa [total] using this
end Go.Proofs.Ytlnhhamfmnjapaa.Pure
