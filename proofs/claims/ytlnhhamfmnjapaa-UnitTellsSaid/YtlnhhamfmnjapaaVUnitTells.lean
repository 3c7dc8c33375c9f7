/- Plain lemmas: the weights that the statements of layer 1 draw from numbers may be, as printed for the law UnitTells. -/
import Derived.Test.YtlnhhamfmnjapaaTUnitTells
namespace Go.Proofs.Ytlnhhamfmnjapaa.PUnitTells.U
open Go.RowKit Go.Proofs.YtlnhhamfmnjapaaW.PrintWords Go.Proofs.YtlnhhamfmnjapaaW.PrintLast Go.Proofs.YtlnhhamfmnjapaaW.PrintMore
set_option linter.unusedVariables false

theorem u64_bd (x : Int) : 0 ≤ IntKind.u64.wrap x ∧ IntKind.u64.wrap x < 18446744073709551616 := by
  simp [IntKind.wrap, IntKind.bits, IntKind.signed]; omega
theorem weight_bd (x : Int) : 0 ≤ wrap64 (shr .u64 (IntKind.u64.wrap x) (IntKind.u64.wrap (wrap64 (14 + (Go.bits .and .i64 x 31))))) ∧ wrap64 (shr .u64 (IntKind.u64.wrap x) (IntKind.u64.wrap (wrap64 (14 + (Go.bits .and .i64 x 31))))) ≤ 1125899906842624 := by
  have ⟨a, b⟩ := u64_bd x
  rw [and31, w64 (x := 14 + x % 32) (by omega) (by omega), u64w (x := 14 + x % 32) (by omega) (by omega)]
  generalize IntKind.u64.wrap x = y at *
  unfold shr
  obtain ⟨s, hs⟩ : ∃ s : Nat, min (14 + x % 32).toNat IntKind.u64.bits = 14 + s := ⟨min (14 + x % 32).toNat IntKind.u64.bits - 14, by simp only [IntKind.bits]; omega⟩
  rw [hs, Int.pow_add]
  have hp : (0 : Int) < 2 ^ s := Int.pow_pos (by decide)
  have e : y / (2 ^ 14 * 2 ^ s) = y / 2 ^ 14 / 2 ^ s := (Int.ediv_ediv_of_nonneg (by decide)).symm
  rw [e]
  have c0 : 0 ≤ y / 2 ^ 14 := Int.ediv_nonneg a (by decide)
  have c1 : y / 2 ^ 14 ≤ 1125899906842624 := by omega
  have d0 : 0 ≤ y / 2 ^ 14 / 2 ^ s := Int.ediv_nonneg c0 (by omega)
  have d1 : y / 2 ^ 14 / 2 ^ s ≤ y / 2 ^ 14 := Int.ediv_le_self _ c0
  rw [w64 (by omega) (by omega)]
  omega
theorem Weights_l0 (l : List Int) (hlen : l.length ≤ 9000000000000000000) : ∀ (d i : Nat) (out : List Int) (k : Nat), 40 - i = d → i ≤ 40 → i ≤ l.length → out.length = i → (∀ x ∈ out, 0 ≤ x ∧ x ≤ 1125899906842624) → d + 1 ≤ k →
    ∃ r, quoinlaw1_Weights.l0 k l out (i : Int) = some r ∧ r.length ≤ 40 ∧ ∀ x ∈ r, 0 ≤ x ∧ x ≤ 1125899906842624 := by
  intro d
  induction d with
  | zero =>
    intro i out k hd hi hil ho hx hk
    obtain ⟨k, rfl⟩ : ∃ m, k = m + 1 := ⟨k - 1, by omega⟩
    have : i = 40 := by omega
    subst this
    simp only [quoinlaw1_Weights.l0]
    refine ⟨out, ?_, by omega, hx⟩
    by_cases h : ((40 : Nat) : Int) < (l.length : Int)
    · rw [if_pos h, if_neg (by decide)]
    · rw [if_neg h]
  | succ d ih =>
    intro i out k hd hi hil ho hx hk
    obtain ⟨k, rfl⟩ : ∃ m, k = m + 1 := ⟨k - 1, by omega⟩
    simp only [quoinlaw1_Weights.l0]
    by_cases h : (i : Int) < (l.length : Int)
    · have hlt : i < l.length := by omega
      have u := u64_bd (wrap64 (14 + (Go.bits .and .i64 (rd l i) 31)))
      rw [if_pos h, if_pos (by omega), if_pos (by omega), if_pos u.1, if_pos (by omega), w64 (x := (i : Int) + 1) (by omega) (by omega)]
      have := ih (i + 1) (out ++ [wrap64 (shr .u64 (IntKind.u64.wrap (rd l i)) (IntKind.u64.wrap (wrap64 (14 + (Go.bits .and .i64 (rd l i) 31)))))]) k (by omega) (by omega) (by omega) (by simp; omega) (by
        intro x hxm
        rcases List.mem_append.1 hxm with hxm | hxm
        · exact hx x hxm
        · rw [List.mem_singleton.1 hxm]; exact weight_bd _) (by omega)
      rw [show ((i : Int) + 1) = ((i + 1 : Nat) : Int) from by omega]
      exact this
    · rw [if_neg h]
      exact ⟨out, rfl, by omega, hx⟩
theorem Weights_some (l : List Int) (hlen : l.length ≤ 9000000000000000000) (k : Nat) (hk : 41 ≤ k) : ∃ r, quoinlaw1_Weights.f k l = some r ∧ r.length ≤ 40 ∧ ∀ x ∈ r, 0 ≤ x ∧ x ≤ 1125899906842624 := by
  unfold quoinlaw1_Weights.f
  exact Weights_l0 l hlen 40 0 [] k (by omega) (by omega) (by omega) rfl (by simp) hk

/-- Each part, as the difference of two ratios. -/
theorem parts_get (n W : Int) (ws : List Int) : ∀ (a : Int) (i : Nat) (h : i < (parts n W a (n * a / W) ws).length),
    (parts n W a (n * a / W) ws)[i] = n * (a + total (ws.take (i + 1))) / W - n * (a + total (ws.take i)) / W := by
  induction ws with
  | nil => intro a i h; simp [parts] at h
  | cons w ws ih =>
    intro a i h
    simp only [parts]
    cases i with
    | zero => simp [total]
    | succ i =>
      simp only [List.getElem_cons_succ, List.take_succ_cons, total]
      rw [ih (a + w) i (by simpa [parts] using h)]
      simp only [Int.add_assoc]
theorem share_length (n : Int) (ws : List Int) : (share n ws).length = ws.length := parts_length _ _ _ _ _
theorem share_get (n : Int) (ws : List Int) (i : Nat) (h : i < ws.length) :
    (share n ws)[i]'(by rw [share_length]; exact h) = n * total (ws.take (i + 1)) / total ws - n * total (ws.take i) / total ws := by
  have e0 : n * 0 / total ws = 0 := by rw [Int.mul_zero, Int.zero_ediv]
  have := parts_get n (total ws) ws 0 i (by rw [parts_length]; exact h)
  simp only [e0, Int.zero_add] at this
  exact this
theorem total_take_succ (ws : List Int) (i : Nat) (h : i < ws.length) : total (ws.take (i + 1)) = total (ws.take i) + ws[i] := by
  rw [List.take_succ_eq_append_getElem h, total_append]; simp [total]
theorem total_take_le {ws : List Int} (hws : ∀ x ∈ ws, 0 ≤ x) (i : Nat) : 0 ≤ total (ws.take i) ∧ total (ws.take i) ≤ total ws := by
  have h1 := total_nonneg (l := ws.take i) (fun x hx => hws x (List.mem_of_mem_take hx))
  have h2 := total_nonneg (l := ws.drop i) (fun x hx => hws x (List.mem_of_mem_drop hx))
  have h3 : total ws = total (ws.take i) + total (ws.drop i) := by rw [← total_append, List.take_append_drop]
  omega
/-- A sum's floor is the floors' sum, or one more. -/
theorem floor_add (a b w : Int) (hw : 0 < w) : a / w + b / w ≤ (a + b) / w ∧ (a + b) / w ≤ a / w + b / w + 1 := by
  have e1 := Int.mul_ediv_add_emod a w
  have e2 := Int.mul_ediv_add_emod b w
  have e3 := Int.mul_ediv_add_emod (a + b) w
  have r1 := Int.emod_nonneg a (b := w) (by omega)
  have r2 := Int.emod_nonneg b (b := w) (by omega)
  have r3 := Int.emod_nonneg (a + b) (b := w) (by omega)
  have s1 := Int.emod_lt_of_pos a hw
  have s2 := Int.emod_lt_of_pos b hw
  have s3 := Int.emod_lt_of_pos (a + b) hw
  constructor
  · apply (Int.le_ediv_iff_mul_le hw).2
    rw [Int.add_mul, Int.mul_comm, Int.mul_comm (b / w)]; omega
  · have : (a + b) / w < a / w + b / w + 2 := by
      apply Int.ediv_lt_of_lt_mul hw
      rw [Int.add_mul, Int.add_mul, Int.mul_comm, Int.mul_comm (b / w)]; omega
    omega
end Go.Proofs.Ytlnhhamfmnjapaa.PUnitTells.U
