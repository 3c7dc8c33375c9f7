/- UnitHolds holds: what is held is within bounds, held again as it was; a sum is each number's in turn, held; of numbers whose sums are small it is their sum, in any order. For any numbers; no condition. -/
import Derived.Test.YtlnhhamfmnjapaaTUnitHolds
namespace Go.Proofs.Ytlnhhamfmnjapaa.Pure
open Go.RowKit Go.Proofs.Ytlnhhamfmnjapaa.PUnitHolds Go.Proofs.YtlnhhamfmnjapaaW.PrintWords Go.Proofs.YtlnhhamfmnjapaaW.PrintLast Go.Proofs.YtlnhhamfmnjapaaW.PrintMore
open Go.Proofs.Ytlnhhamfmnjapaa.PUnitHolds.U
set_option linter.unusedVariables false

theorem sumHeld_append (a b : List Int) : ∀ s, sumHeld s (a ++ b) = sumHeld (sumHeld s a) b := by
  induction a with
  | nil => intro s; rfl
  | cons x a ih => intro s; simp only [List.cons_append, sumHeld]; exact ih _
theorem sumHeld_bd (a : List Int) : ∀ s, -1073741824 ≤ s → s ≤ 1073741824 → -1073741824 ≤ sumHeld s a ∧ sumHeld s a ≤ 1073741824 := by
  induction a with
  | nil => intro s h0 h1; exact ⟨h0, h1⟩
  | cons x a ih => intro s h0 h1; simp only [sumHeld]; have := held_bd (n := s + held x 1073741824) (m := 1073741824) (by decide); exact ih _ this.1 this.2
theorem sumHeld_small (a : List Int) (h : ∀ x ∈ a, -10000000 ≤ x ∧ x ≤ 10000000) : ∀ s, -((100 - a.length : Int) * 10000000) ≤ s → s ≤ (100 - a.length : Int) * 10000000 → a.length ≤ 100 → sumHeld s a = s + total a := by
  induction a with
  | nil => intro s _ _ _; simp [sumHeld, total]
  | cons x a ih =>
    intro s h0 h1 hl
    have hx := h x (by simp)
    simp only [List.length_cons] at h0 h1 hl
    simp only [sumHeld, total]
    rw [held_id (n := x) (by omega) (by omega), held_id (n := s + x) (by omega) (by omega), ih (fun y hy => h y (by simp [hy])) (s + x) (by omega) (by omega) (by omega)]
    omega
theorem total_reverse (a : List Int) : total a.reverse = total a := by
  induction a with
  | nil => rfl
  | cons x a ih => rw [List.reverse_cons, total_append, ih]; simp only [total]; omega

theorem l1_ok (a0 : Int) (l : List Int) (a2 h : Int) (sm : List Int) (sum : Int) (k : Nat) (hs : sm.length ≤ 60) : ∀ (d : Nat) (out : List Int), d ≤ sm.length → out.length + d ≤ 60 →
    quoinlaw1_UnitHolds.l1 (k + 1 + d) a0 l a2 h sm out sum ((d : Int) - 1) = quoinlaw1_UnitHolds.l1 (k + 1) a0 l a2 h sm (out ++ (sm.take d).reverse) sum (-1) := by
  intro d
  induction d with
  | zero => intro out _ _; simp
  | succ d ih =>
    intro out hd ho
    have e := ih (out ++ [sm[d]]) (by omega) (by simp; omega)
    rw [show k + 1 + (d + 1) = (k + 1 + d) + 1 from by omega]
    generalize k + 1 + d = kk at *
    rw [quoinlaw1_UnitHolds.l1, show (((d + 1 : Nat) : Int) - 1) = (d : Int) from by omega, if_pos (by omega), if_pos (by omega), if_pos (by omega), if_pos (by omega), rd_lt (show d < sm.length by omega), w64 (x := (d : Int) - 1) (by omega) (by omega), e]
    rw [List.take_succ_eq_append_getElem (show d < sm.length by omega), List.reverse_append]
    simp
theorem l0_ok (a0 : Int) (l : List Int) (a2 h : Int) (k : Nat) (hs : l.length ≤ 60) : ∀ (d i : Nat), l.length - i = d → i ≤ l.length →
    quoinlaw1_UnitHolds.l0 (k + 1 + d) a0 l a2 h ((l.map (Int.tmod · 10000000)).take i) (total ((l.map (Int.tmod · 10000000)).take i)) i = quoinlaw1_UnitHolds.l1 k a0 l a2 h (l.map (Int.tmod · 10000000)) [] (total (l.map (Int.tmod · 10000000))) ((l.length : Int) - 1) := by
  have hsm : ∀ x ∈ l.map (Int.tmod · 10000000), -10000000 ≤ x ∧ x ≤ 10000000 := by
    intro x hx
    obtain ⟨y, _, rfl⟩ := List.mem_map.1 hx
    have := tmod_bd y 10000000 (by decide); omega
  have hT : ∀ i, -600000000 ≤ total ((l.map (Int.tmod · 10000000)).take i) ∧ total ((l.map (Int.tmod · 10000000)).take i) ≤ 600000000 := by
    intro i
    have hm : ∀ x ∈ (l.map (Int.tmod · 10000000)).take i, -10000000 ≤ x ∧ x ≤ 10000000 := fun x hx => hsm x (List.mem_of_mem_take hx)
    have hl : ((l.map (Int.tmod · 10000000)).take i).length ≤ 60 := by rw [List.length_take, List.length_map]; omega
    generalize (l.map (Int.tmod · 10000000)).take i = q at *
    have a := total_le (l := q) 10000000 (fun x hx => (hm x hx).2)
    have b : -(q.length * 10000000 : Int) ≤ total q := by
      clear hl a
      induction q with
      | nil => simp [total]
      | cons x q ih => have := hm x (by simp); have := ih (fun y hy => hm y (by simp [hy])); simp only [total, List.length_cons]; omega
    omega
  intro d
  induction d with
  | zero =>
    intro i hd hi
    have : i = l.length := by omega
    subst this
    rw [Nat.add_zero, quoinlaw1_UnitHolds.l0, if_neg (by omega)]
    have e : (l.map (Int.tmod · 10000000)).take l.length = l.map (Int.tmod · 10000000) := by rw [List.take_of_length_le (by simp)]
    rw [e, List.length_map, w64 (x := (l.length : Int) - 1) (by omega) (by omega)]
  | succ d ih =>
    intro i hd hi
    have e := ih (i + 1) (by omega) (by omega)
    have hlt : i < l.length := by omega
    have hlt' : i < (l.map (Int.tmod · 10000000)).length := by simpa using hlt
    have hTi := hT i
    have hTs := hT (i + 1)
    rw [List.take_succ_eq_append_getElem hlt', total_append] at e hTs
    have g : (l.map (Int.tmod · 10000000))[i] = Int.tmod l[i] 10000000 := by simp
    rw [g] at e hTs
    simp only [total, Int.add_zero] at e hTs
    rw [show k + 1 + (d + 1) = (k + 1 + d) + 1 from by omega]
    generalize k + 1 + d = kk at *
    rw [quoinlaw1_UnitHolds.l0, if_pos (by omega), if_pos (by omega), if_pos (by rw [List.length_take]; omega), rd_lt hlt, w64 (x := total ((l.map (Int.tmod · 10000000)).take i) + Int.tmod l[i] 10000000) (by omega) (by omega), w64 (x := (i : Int) + 1) (by omega) (by omega), show ((i : Int) + 1) = ((i + 1 : Nat) : Int) from by omega]
    exact e

theorem UnitHolds : quoinlaw1_UnitHolds.Pure := by
  intro a0 l a2 _ _ _ _ _
  by_cases hbig : (l.length : Int) > 60
  · refine ⟨40, ?_⟩
    unfold quoinlaw1_UnitHolds.f
    rw [if_pos hbig, awake_true _ (by decide)]; rfl
  have hl : l.length ≤ 60 := by omega
  refine ⟨100 + 1 + l.length + 1 + l.length, ?_⟩
  unfold quoinlaw1_UnitHolds.f
  rw [if_neg hbig, Hold_eq]
  simp only [Option.bind_some]
  obtain ⟨sm, hsm⟩ : ∃ sm, sm = l.map (Int.tmod · 10000000) := ⟨_, rfl⟩
  have smb : ∀ x ∈ sm, -10000000 ≤ x ∧ x ≤ 10000000 := by
    intro x hx
    rw [hsm] at hx
    obtain ⟨y, _, rfl⟩ := List.mem_map.1 hx
    have := tmod_bd y 10000000 (by decide); omega
  have sml : sm.length = l.length := by rw [hsm, List.length_map]
  have e0 := l0_ok a0 l a2 (held a0 1073741824) (100 + 1 + l.length) hl l.length 0 (by omega) (by omega)
  rw [← hsm] at e0
  simp only [List.take_zero, total] at e0
  rw [show ((0 : Nat) : Int) = 0 from rfl] at e0
  rw [e0]
  have e1 := l1_ok a0 l a2 (held a0 1073741824) sm (total sm) 100 (by omega) l.length [] (by omega) (by simp; omega)
  rw [e1, List.nil_append, List.take_of_length_le (by omega), quoinlaw1_UnitHolds.l1]
  obtain ⟨i, hi⟩ : ∃ i, i = Int.tmod (Go.bits .and .i64 a2 255) ((l.length : Int) + 1) := ⟨_, rfl⟩
  have hi' : 0 ≤ i ∧ i ≤ l.length := by
    rw [hi, and255, Int.tmod_eq_emod_of_nonneg (by omega)]
    have a := Int.emod_nonneg (a2 % 256) (b := (l.length : Int) + 1) (by omega)
    have b := Int.emod_lt_of_pos (a2 % 256) (b := (l.length : Int) + 1) (by omega)
    omega
  rw [w64 (x := (l.length : Int) + 1) (by omega) (by omega), ← hi, if_neg (by decide), if_neg (by omega), if_pos hi'.1, if_pos hi'.2]
  obtain ⟨j, hj⟩ : ∃ j : Nat, i = j := ⟨i.toNat, by omega⟩
  subst hj
  simp only [Int.toNat_natCast]
  have ⟨b0, b1⟩ := held_bd (n := a0) (m := 1073741824) (by decide)
  have ⟨c0, c1⟩ := sumHeld_bd (l.take j) 0 (by decide) (by decide)
  rw [Add_eq (l.take j) (by rw [List.length_take]; omega) _ (by rw [List.length_take]; omega)]
  simp only [Option.bind_some]
  rw [if_pos b0, if_pos b1, Hold_eq]
  simp only [Option.bind_some]
  rw [if_pos (held_id b0 b1)]
  have s1 : sumHeld 0 sm = total sm := by rw [sumHeld_small sm smb 0 (by omega) (by omega) (by omega), Int.zero_add]
  have s2 : sumHeld 0 sm.reverse = total sm := by
    rw [sumHeld_small sm.reverse (fun x hx => smb x (List.mem_reverse.1 hx)) 0 (by simp; omega) (by simp; omega) (by simp; omega), Int.zero_add, total_reverse]
  have s3 : sumHeld 0 ([sumHeld 0 (l.take j)] ++ l.drop j) = sumHeld 0 l := by
    have : sumHeld 0 [sumHeld 0 (l.take j)] = sumHeld 0 (l.take j) := by
      simp only [sumHeld]
      rw [held_id c0 c1, Int.zero_add, held_id c0 c1]
    rw [sumHeld_append, this, ← sumHeld_append, List.take_append_drop]
  rw [Add_eq sm (by omega) _ (by omega), Add_eq sm.reverse (by simp; omega) _ (by simp; omega)]
  have L : ([sumHeld 0 (l.take j)] ++ l.drop j).length ≤ 61 := by simp; omega
  simp only [Option.bind_some, s1, s2, if_true]
  rw [if_pos (show [sumHeld 0 (l.take j)].length + (l.drop j).length < 17592186044416 by simp; omega), Add_eq _ (by omega) _ (by omega), Add_eq l (by omega) _ (by omega), Add_eq [] (by simp) _ (by simp)]
  simp only [Option.bind_some, s3, if_true]
  rw [awake_true _ (by omega)]
  simp only [Option.bind_some, sumHeld, if_true]
  by_cases h1 : held a0 1073741824 = a0
  · rw [if_pos h1]
  · rw [if_neg h1]
    by_cases h2 : a0 > 1073741824
    · rw [if_pos h2]
    · rw [if_neg h2, if_pos (by
        apply Decidable.byContradiction
        intro h3
        exact h1 (held_id (by omega) (by omega)))]
end Go.Proofs.Ytlnhhamfmnjapaa.Pure
