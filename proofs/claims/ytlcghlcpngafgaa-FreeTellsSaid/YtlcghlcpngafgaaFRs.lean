/- Plain lemmas: the document's Ratio and Share are those of package unit. -/
import Derived.Test.YtlcghlcpngafgaaFSh
import Derived.Test.YtlcghlcpngafgaaPFreex6
namespace Go.Proofs.Ytlcghlcpngafgaa.PFree.U
open Go.RowKit Go.Proofs.YtlcghlcpngafgaaW.PrintWords Go.Proofs.YtlcghlcpngafgaaW.PrintLast Go.Proofs.YtlcghlcpngafgaaW.PrintMore
set_option linter.unusedVariables false
set_option linter.unusedSimpArgs false
theorem bit_step (a : Int) (i : Nat) : a / 2 ^ i = 2 * (a / 2 ^ (i + 1)) + a / 2 ^ i % 2 := by
  have : a / 2 ^ (i + 1) = a / 2 ^ i / 2 := by
    rw [Int.pow_succ, Int.ediv_ediv_of_nonneg (Int.le_of_lt (Int.pow_pos (by decide)))]
  omega
/-- What Ratio tells at its end. -/
def finR (n z w : Int) : Int := if n ≥ 0 then z / w else if z % w > 0 then -(z / w) - 1 else -(z / w)
theorem and1 (x : Int) : Go.bits .and .i64 x 1 = x % 2 := and_mask x 1 (by decide)
theorem q_le {q r w a p : Int} (hw : 0 < w) (r0 : 0 ≤ r) (h : q * w + r ≤ a * p) (hp : p ≤ w) (ha : 0 ≤ a) : q ≤ a := by
  have h1 : a * p ≤ a * w := Int.mul_le_mul_of_nonneg_left hp ha
  exact Int.le_of_mul_le_mul_right (show q * w ≤ a * w by omega) hw
theorem rRatio_l1 (n p w a X : Int) (i : Int) (hw : 1 ≤ w) (hw1 : w ≤ 1152921504606846976) (hp : p ≤ w) (ha : 0 ≤ a) (ha1 : a ≤ 1152921504606846976) (hX : X ≤ a * p) (v : Int) (hi0 : -1 ≤ i - 1) (hi1 : i ≤ 100)
    (ih : ∀ q r, q * w + r = X → 0 ≤ r → r < w → 0 ≤ q → ∃ K, ∀ k, K ≤ k → quoinref1_Ratio.l0 k n p w a q r (i - 1) = some v) :
    ∀ q r, q * w + r = X → 0 ≤ r → r < 3 * w → 0 ≤ q → ∃ K, ∀ k, K ≤ k → quoinref1_Ratio.l1 k n p w a q r i = some v := by
  have one : ∀ q r, q * w + r = X → 0 ≤ r → r < w → 0 ≤ q → ∃ K, ∀ k, K ≤ k → quoinref1_Ratio.l1 k n p w a q r i = some v := by
    intro q r e r0 r1 q0
    obtain ⟨K, hK⟩ := ih q r e r0 r1 q0
    refine ⟨K + 1, fun k hk => ?_⟩
    obtain ⟨k, rfl⟩ : ∃ m, k = m + 1 := ⟨k - 1, by omega⟩
    rw [quoinref1_Ratio.l1, if_neg (by omega), w64 (x := i - 1) (by omega) (by omega)]
    exact hK k (by omega)
  have more : ∀ q r, q * w + r = X → w ≤ r → r < 3 * w → 0 ≤ q → (∃ K, ∀ k, K ≤ k → quoinref1_Ratio.l1 k n p w a (q + 1) (r - w) i = some v) → ∃ K, ∀ k, K ≤ k → quoinref1_Ratio.l1 k n p w a q r i = some v := by
    intro q r e r0 r1 q0 ⟨K, hK⟩
    have := q_le (q := q) (r := r) (by omega) (by omega) (by omega) hp ha
    refine ⟨K + 1, fun k hk => ?_⟩
    obtain ⟨k, rfl⟩ : ∃ m, k = m + 1 := ⟨k - 1, by omega⟩
    rw [quoinref1_Ratio.l1, if_pos (by omega), w64 (x := q + 1) (by omega) (by omega), w64 (x := r - w) (by omega) (by omega)]
    exact hK k (by omega)
  intro q r e r0 r1 q0
  have e1 : (q + 1) * w + (r - w) = X := by rw [Int.add_mul]; omega
  by_cases h1 : r < w
  · exact one q r e r0 h1 q0
  · refine more q r e (by omega) r1 q0 ?_
    by_cases h2 : r - w < w
    · exact one _ _ e1 (by omega) h2 (by omega)
    · refine more _ _ e1 (by omega) (by omega) (by omega) (one _ _ ?_ (by omega) (by omega) (by omega))
      rw [Int.add_mul]; omega
theorem rRatio_l0 (n p w a : Int) (hw : 1 ≤ w) (hw1 : w ≤ 1152921504606846976) (hp0 : 0 ≤ p) (hp : p ≤ w) (ha : 0 ≤ a) (ha1 : a ≤ 1152921504606846976) :
    ∀ (m : Nat), m ≤ 61 → ∀ q r, q * w + r = a / 2 ^ m * p → 0 ≤ r → r < w → 0 ≤ q → ∃ K, ∀ k, K ≤ k → quoinref1_Ratio.l0 k n p w a q r ((m : Int) - 1) = some (finR n (a * p) w) := by
  have hpow : ∀ m : Nat, a / 2 ^ m * p ≤ a * p := fun m =>
    Int.mul_le_mul_of_nonneg_right (Int.ediv_le_self _ ha) hp0
  intro m
  induction m with
  | zero =>
    intro _ q r e r0 r1 q0
    simp only [Int.pow_zero, Int.ediv_one] at e
    have ⟨hq, hr⟩ := (Int.ediv_emod_unique (a := a * p) (b := w) (q := q) (r := r) (by omega)).2 ⟨by rw [Int.mul_comm w q]; omega, r0, r1⟩
    have qa := q_le (q := q) (r := r) (w := w) (a := a) (p := p) (by omega) r0 (by omega) hp ha
    refine ⟨1, fun k hk => ?_⟩
    obtain ⟨k, rfl⟩ : ∃ m, k = m + 1 := ⟨k - 1, by omega⟩
    rw [quoinref1_Ratio.l0, if_neg (by omega)]
    unfold finR
    rw [hq, hr, w64 (x := -q) (by omega) (by omega), w64 (x := -q - 1) (by omega) (by omega)]
    split
    · rfl
    · split <;> rfl
  | succ m ih =>
    intro hm q r e r0 r1 q0
    have hb := bit_step a m
    have hb2 : a / 2 ^ m % 2 = 0 ∨ a / 2 ^ m % 2 = 1 := by omega
    have qa := q_le (q := q) (r := r) (w := w) (a := a) (p := p) (by omega) r0 (by have := hpow (m + 1); omega) hp ha
    have hsh : shr .i64 a (IntKind.u64.wrap (m : Int)) = a / 2 ^ m := by
      unfold shr
      rw [u64w (by omega) (by omega), Int.toNat_natCast, Nat.min_eq_left (by simp only [IntKind.bits]; omega)]
    have L := rRatio_l1 n p w a (a / 2 ^ m * p) (m : Int) hw hw1 hp ha ha1 (hpow m) (finR n (a * p) w) (by omega) (by omega) (ih (by omega))
    have step : ∀ r', r' = 2 * r + a / 2 ^ m % 2 * p → ∃ K, ∀ k, K ≤ k → quoinref1_Ratio.l1 k n p w a (2 * q) r' m = some (finR n (a * p) w) := by
      intro r' hr'
      have hbp : 0 ≤ a / 2 ^ m % 2 * p ∧ a / 2 ^ m % 2 * p ≤ w := by
        rcases hb2 with h | h <;> rw [h] <;> omega
      refine L (2 * q) r' ?_ (by omega) (by omega) (by omega)
      have e2 : a / 2 ^ m * p = 2 * (a / 2 ^ (m + 1) * p) + a / 2 ^ m % 2 * p := by
        conv => lhs; rw [hb]
        rw [Int.add_mul, Int.mul_assoc]
      rw [e2, ← e, hr', Int.mul_add, Int.mul_assoc]; omega
    obtain ⟨K, hK⟩ := step _ rfl
    refine ⟨K + 2, fun k hk => ?_⟩
    obtain ⟨k, rfl⟩ : ∃ m, k = m + 1 + 1 := ⟨k - 2, by omega⟩
    rw [quoinref1_Ratio.l0, show (((m + 1 : Nat) : Int) - 1) = (m : Int) from by omega, if_pos (by omega), if_pos (by rw [u64w (by omega) (by omega)]; omega), hsh, and1, w64 (x := 2 * q) (by omega) (by omega), w64 (x := 2 * r) (by omega) (by omega)]
    rcases hb2 with h | h
    · rw [h, if_neg (by decide), quoinref1_Ratio.j3]
      rw [h] at hK
      have := hK k (by omega)
      rw [Int.zero_mul, Int.add_zero] at this
      exact this
    · rw [h, if_pos rfl, quoinref1_Ratio.j3, w64 (x := 2 * r + p) (by omega) (by omega)]
      rw [h] at hK
      have := hK k (by omega)
      rw [Int.one_mul] at this
      exact this
theorem fin_floor (n p w : Int) (hw : 1 ≤ w) : finR n ((if n < 0 then -n else n) * p) w = n * p / w := by
  unfold finR
  by_cases h : n ≥ 0
  · rw [if_pos h, if_neg (by omega)]
  · have hn : (if n < 0 then -n else n) = -n := if_pos (by omega)
    rw [if_neg h, hn]
    obtain ⟨z, hz⟩ : ∃ z, z = -n * p := ⟨_, rfl⟩
    have hnp : n * p = -z := by rw [hz, Int.neg_mul]; omega
    rw [← hz, hnp]
    have e := Int.mul_ediv_add_emod z w
    have r0 := Int.emod_nonneg z (b := w) (by omega)
    have r1 := Int.emod_lt_of_pos z (b := w) (by omega)
    by_cases hr : z % w > 0
    · rw [if_pos hr]; symm
      exact ((Int.ediv_emod_unique (r := w - z % w) (q := -(z / w) - 1) (by omega)).2 ⟨by rw [Int.mul_sub, Int.mul_neg]; omega, by omega, by omega⟩).1
    · rw [if_neg hr]; symm
      exact ((Int.ediv_emod_unique (r := 0) (q := -(z / w)) (by omega)).2 ⟨by rw [Int.mul_neg]; omega, by omega, by omega⟩).1
/-- The document's Ratio, where its arguments may be. -/
theorem rRatio_eq (n p w : Int) (hn0 : -1152921504606846976 ≤ n) (hn1 : n ≤ 1152921504606846976) (hp0 : 0 ≤ p) (hp1 : p ≤ w) (hw0 : 1 ≤ w) (hw1 : w ≤ 1152921504606846976) : ∃ K, ∀ k, K ≤ k → quoinref1_Ratio.f k n p w = some (n * p / w) := by
  have big : ∀ a : Int, 0 ≤ a → a ≤ 1152921504606846976 → a / 2 ^ 61 = 0 := fun a h0 h1 => Int.ediv_eq_zero_of_lt h0 (by omega)
  have main : ∀ a : Int, 0 ≤ a → a ≤ 1152921504606846976 → ∃ K, ∀ k, K ≤ k → quoinref1_Ratio.j1 k n p w a = some (finR n (a * p) w) := by
    intro a h0 h1
    obtain ⟨K, hK⟩ := rRatio_l0 n p w a hw0 hw1 hp0 hp1 h0 h1 61 (by decide) 0 0 (by rw [big a h0 h1]; omega) (by decide) (by omega) (by decide)
    refine ⟨K + 1, fun k hk => ?_⟩
    obtain ⟨k, rfl⟩ : ∃ m, k = m + 1 := ⟨k - 1, by omega⟩
    rw [quoinref1_Ratio.j1]
    exact hK k (by omega)
  obtain ⟨K, hK⟩ := main (if n < 0 then -n else n) (by split <;> omega) (by split <;> omega)
  refine ⟨K + 1, fun k hk => ?_⟩
  obtain ⟨k, rfl⟩ : ∃ m, k = m + 1 := ⟨k - 1, by omega⟩
  unfold quoinref1_Ratio.f
  rw [if_neg (by omega), if_neg (by omega), if_neg (by omega), if_neg (by omega), if_neg (by omega), decide_eq_false (by omega), quoinref1_Ratio.j0, if_neg (by simp), w64 (x := -n) (by omega) (by omega)]
  have e := hK k (by omega)
  rw [fin_floor n p w hw0] at e
  by_cases h : n < 0
  · rw [if_pos h] at e ⊢; exact e
  · rw [if_neg h] at e ⊢; exact e
theorem total_take_bd (ws : List Int) (hlen : ws.length ≤ 1000) (i : Nat) (h : ∀ j (hj : j < ws.length), j < i → 0 ≤ ws[j] ∧ ws[j] ≤ 1125899906842624) : 0 ≤ total (ws.take i) ∧ total (ws.take i) ≤ 1125899906842624000 := by
  have hm : ∀ x ∈ ws.take i, 0 ≤ x ∧ x ≤ 1125899906842624 := by
    intro x hx
    obtain ⟨j, hj, rfl⟩ := List.mem_iff_getElem.1 hx
    rw [List.length_take] at hj
    rw [List.getElem_take]
    exact h j (by omega) (by omega)
  have h1 := total_nonneg (l := ws.take i) (fun x hx => (hm x hx).1)
  have h2 := total_le (l := ws.take i) 1125899906842624 (fun x hx => (hm x hx).2)
  have h3 : (ws.take i).length ≤ 1000 := by rw [List.length_take]; omega
  exact ⟨h1, by omega⟩
theorem rShare_l1 (n W : Int) (hn0 : -1152921504606846976 ≤ n) (hn1 : n ≤ 1152921504606846976) (hW : W ≤ 1152921504606846976) (ws : List Int) (hlen : ws.length ≤ 1000) (hws : ∀ x ∈ ws, 0 ≤ x) :
    ∀ (d i : Nat) (a l a' l' : Int) (out : List Int), ws.length - i = d → i ≤ ws.length → out.length = i → 0 ≤ a → a + total (ws.drop i) ≤ W → (W ≠ 0 → a' = a ∧ l' = l) → (W = 0 → l = 0) → -1152921504606846976 ≤ l → l ≤ 1152921504606846976 →
      ∃ K, ∀ k, K ≤ k → quoinref1_Share.l1 k n ws W out a' l' (i : Int) = some (out ++ parts n W a l (ws.drop i)) := by
  intro d
  induction d with
  | zero =>
    intro i a l a' l' out hd hi ho ha0 ha he hz hl0 hl1
    have : i = ws.length := by omega
    subst this
    refine ⟨1, fun k hk => ?_⟩
    obtain ⟨k, rfl⟩ : ∃ m, k = m + 1 := ⟨k - 1, by omega⟩
    rw [quoinref1_Share.l1, if_neg (by omega), List.drop_length]; simp [parts]
  | succ d ih =>
    intro i a l a' l' out hd hi ho ha0 ha he hz hl0 hl1
    have hlt : i < ws.length := by omega
    have hx := hws ws[i] (List.getElem_mem hlt)
    rw [drop_cons hlt] at ha ⊢
    simp only [total] at ha
    have ht := total_nonneg (l := ws.drop (i + 1)) (fun x hx => hws x (List.mem_of_mem_drop hx))
    have hb := ratio_bd (n := n) (p := a + ws[i]) (w := W) hn0 hn1 (by omega) (by omega)
    by_cases hW0 : W = 0
    · subst hW0
      have l0 := hz rfl
      subst l0
      obtain ⟨K, hK⟩ := ih (i + 1) (a + ws[i]) 0 a' l' (out ++ [0]) (by omega) (by omega) (by simp; omega) (by omega) (by omega) (fun h => absurd rfl h) (fun _ => rfl) (by decide) (by decide)
      refine ⟨K + 1, fun k hk => ?_⟩
      obtain ⟨k, rfl⟩ : ∃ m, k = m + 1 := ⟨k - 1, by omega⟩
      rw [quoinref1_Share.l1, if_pos (by omega), if_pos rfl, if_pos (by omega), w64 (x := (i : Int) + 1) (by omega) (by omega), show ((i : Int) + 1) = ((i + 1 : Nat) : Int) from by omega, hK k (by omega)]
      simp [parts]
    · obtain ⟨rfl, rfl⟩ := he hW0
      obtain ⟨K1, hK1⟩ := rRatio_eq n (a' + ws[i]) W hn0 hn1 (by omega) (by omega) (by omega) hW
      obtain ⟨K, hK⟩ := ih (i + 1) (a' + ws[i]) (n * (a' + ws[i]) / W) (a' + ws[i]) (n * (a' + ws[i]) / W) (out ++ [n * (a' + ws[i]) / W - l']) (by omega) (by omega) (by simp; omega) (by omega) (by omega) (fun _ => ⟨rfl, rfl⟩) (fun h => absurd h hW0) hb.1 hb.2
      refine ⟨K + K1 + 1, fun k hk => ?_⟩
      obtain ⟨k, rfl⟩ : ∃ m, k = m + 1 := ⟨k - 1, by omega⟩
      rw [quoinref1_Share.l1, rd_lt hlt, if_pos (by omega), if_neg hW0, if_pos (by omega), w64 (x := a' + ws[i]) (by omega) (by omega), hK1 k (by omega)]
      simp only [Option.bind_some]
      rw [if_pos (by omega), w64 (x := n * (a' + ws[i]) / W - l') (by omega) (by omega), w64 (x := (i : Int) + 1) (by omega) (by omega), show ((i : Int) + 1) = ((i + 1 : Nat) : Int) from by omega, hK k (by omega)]
      simp [parts]
theorem rShare_l0 (n : Int) (hn0 : -1152921504606846976 ≤ n) (hn1 : n ≤ 1152921504606846976) (ws : List Int) (hlen : ws.length ≤ 1000) (hws : ∀ x ∈ ws, 0 ≤ x ∧ x ≤ 1125899906842624) :
    ∀ (d i : Nat), ws.length - i = d → i ≤ ws.length → ∃ K, ∀ k, K ≤ k → quoinref1_Share.l0 k n ws (total (ws.take i)) (i : Int) = some (share n ws) := by
  have hT : ∀ i, 0 ≤ total (ws.take i) ∧ total (ws.take i) ≤ 1125899906842624000 := fun i => total_take_bd ws hlen i (fun j hj _ => hws _ (List.getElem_mem hj))
  intro d
  induction d with
  | zero =>
    intro i hd hi
    have : i = ws.length := by omega
    subst this
    have hT' := hT ws.length
    rw [List.take_length] at hT' ⊢
    obtain ⟨K, hK⟩ := rShare_l1 n (total ws) hn0 hn1 (by omega) ws hlen (fun x hx => (hws x hx).1) ws.length 0 0 0 0 0 [] (by omega) (by omega) rfl (by omega) (by simp) (fun _ => ⟨rfl, rfl⟩) (fun _ => rfl) (by decide) (by decide)
    refine ⟨K + 1, fun k hk => ?_⟩
    obtain ⟨k, rfl⟩ : ∃ m, k = m + 1 := ⟨k - 1, by omega⟩
    rw [quoinref1_Share.l0, if_neg (by omega)]
    have := hK k (by omega)
    simp only [List.drop_zero, List.nil_append] at this
    exact this
  | succ d ih =>
    intro i hd hi
    have hlt : i < ws.length := by omega
    have hx := hws ws[i] (List.getElem_mem hlt)
    have hT' := hT i
    obtain ⟨K, hK⟩ := ih (i + 1) (by omega) (by omega)
    refine ⟨K + 1, fun k hk => ?_⟩
    obtain ⟨k, rfl⟩ : ∃ m, k = m + 1 := ⟨k - 1, by omega⟩
    rw [quoinref1_Share.l0, rd_lt hlt, if_pos (by omega), if_pos (by omega), if_neg (by omega), if_neg (by omega), w64 (x := total (ws.take i) + ws[i]) (by omega) (by omega), w64 (x := (i : Int) + 1) (by omega) (by omega)]
    have := hK k (by omega)
    rw [List.take_succ_eq_append_getElem hlt, total_append] at this
    simp only [total, Int.add_zero] at this
    rw [show ((i : Int) + 1) = ((i + 1 : Nat) : Int) from by omega]
    exact this
/-- The document's Share, where its arguments may be. -/
theorem rShare_eq (n : Int) (hn0 : -1152921504606846976 ≤ n) (hn1 : n ≤ 1152921504606846976) (ws : List Int) (hlen : ws.length ≤ 1000) (hws : ∀ x ∈ ws, 0 ≤ x ∧ x ≤ 1125899906842624) : ∃ K, ∀ k, K ≤ k → quoinref1_Share.f k n ws = some (share n ws) := by
  obtain ⟨K, hK⟩ := rShare_l0 n hn0 hn1 ws hlen hws ws.length 0 (by omega) (by omega)
  refine ⟨K + 1, fun k hk => ?_⟩
  obtain ⟨k, rfl⟩ : ∃ m, k = m + 1 := ⟨k - 1, by omega⟩
  unfold quoinref1_Share.f
  rw [if_neg (by omega), if_neg (by omega), decide_eq_false (by omega), quoinref1_Share.j0, if_neg (by simp)]
  exact hK k (by omega)
end Go.Proofs.Ytlcghlcpngafgaa.PFree.U
