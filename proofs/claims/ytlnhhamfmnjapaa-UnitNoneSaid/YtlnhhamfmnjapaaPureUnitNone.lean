/- UnitNone holds: weights, parts and numbers that are beyond their bounds are shared, taken, not at all. For any two numbers; no condition. -/
import Derived.Test.YtlnhhamfmnjapaaTUnitNone
namespace Go.Proofs.Ytlnhhamfmnjapaa.Pure
open Go.RowKit Go.Proofs.Ytlnhhamfmnjapaa.PUnitNone Go.Proofs.YtlnhhamfmnjapaaW.PrintWords Go.Proofs.YtlnhhamfmnjapaaW.PrintLast Go.Proofs.YtlnhhamfmnjapaaW.PrintMore
open Go.Proofs.Ytlnhhamfmnjapaa.PUnitNone.U
set_option linter.unusedVariables false
set_option linter.unusedSimpArgs false

theorem Same_refl_one (x : Int) (k : Nat) (hk : 3 ≤ k) : quoinlaw1_Same.f k [x] [x] = some true :=
  at_rounds (g := fun k => quoinlaw1_Same.f k [x] [x]) (fun k => quoinlaw1_Same.mono [x] [x] k) hk (by
    unfold quoinlaw1_Same.f
    rw [if_pos rfl]
    simp [quoinlaw1_Same.l0, rd, wrap64])
/-- Share, of too great a number or too many weights. -/
theorem Share_far (n : Int) (ws : List Int) (h : 1000 < ws.length ∨ n < -1152921504606846976 ∨ 1152921504606846976 < n) (k : Nat) (hk : 1 ≤ k) : unit_Share.f k n ws = some [] := by
  obtain ⟨k, rfl⟩ : ∃ m, k = m + 1 := ⟨k - 1, by omega⟩
  have hj : unit_Share.j0 (k + 1) n ws true = some [] := by simp only [unit_Share.j0]; rfl
  unfold unit_Share.f
  by_cases h1 : (ws.length : Int) > 1000
  · rw [if_pos h1, hj]
  rw [if_neg h1]
  by_cases h2 : n < -1152921504606846976
  · rw [if_pos h2, hj]
  rw [if_neg h2, decide_eq_true (by omega), hj]
theorem share_bad1 (n : Int) (h0 : -1152921504606846976 ≤ n) (h1 : n ≤ 1152921504606846976) (k : Nat) (hk : 4 ≤ k) : unit_Share.f k n [1, -1] = some [] := by
  refine at_rounds (g := fun k => unit_Share.f k n [1, -1]) (fun k => unit_Share.mono n [1, -1] k) hk ?_
  show unit_Share.f 4 n [1, -1] = some []
  unfold unit_Share.f
  rw [if_neg (by decide), if_neg (by omega), decide_eq_false (by omega)]
  simp [unit_Share.j0, unit_Share.l0, rd, wrap64]
theorem share_bad2 (n : Int) (h0 : -1152921504606846976 ≤ n) (h1 : n ≤ 1152921504606846976) (k : Nat) (hk : 4 ≤ k) : unit_Share.f k n [1125899906842625] = some [] := by
  refine at_rounds (g := fun k => unit_Share.f k n [1125899906842625]) (fun k => unit_Share.mono n [1125899906842625] k) hk ?_
  show unit_Share.f 4 n [1125899906842625] = some []
  unfold unit_Share.f
  rw [if_neg (by decide), if_neg (by omega), decide_eq_false (by omega)]
  simp [unit_Share.j0, unit_Share.l0, rd, wrap64]

theorem UnitNone : quoinlaw1_UnitNone.Pure := by
  intro a0 a1 _ _
  refine ⟨40, ?_⟩
  have hn := tmod_bd a1 1000 (by decide)
  unfold quoinlaw1_UnitNone.f
  simp only [Option.bind_some, and255]
  obtain ⟨n, en⟩ : ∃ n, n = Int.tmod a1 1000 := ⟨_, rfl⟩
  rw [← en] at hn ⊢
  obtain ⟨i, hi⟩ : ∃ i, i = Int.tmod (a0 % 256) 6 := ⟨_, rfl⟩
  have hi' : 0 ≤ i ∧ i < 6 := by
    rw [hi, Int.tmod_eq_emod_of_nonneg (by omega)]; omega
  obtain ⟨j, hj⟩ : ∃ j, j = Int.tmod (a0 / 256 % 256) 3 := ⟨_, rfl⟩
  have hj' : 0 ≤ j ∧ j < 3 := by
    rw [hj, Int.tmod_eq_emod_of_nonneg (by omega)]; omega
  simp only [List.length_cons, List.length_nil]
  rw [show ((((((0 + 1 + 1 + 1 + 1 + 1 + 1 : Nat))) : Int)) = 6) from rfl, ← hi, show ((((((0 + 1 + 1 + 1 : Nat))) : Int)) = 3) from rfl, ← hj]
  rw [if_neg (by decide), if_pos hi'.1, if_pos hi'.2, if_pos (by decide), if_pos hj'.1, if_pos hj'.2]
  have R : ∀ x : S50, x ∈ ([(⟨n, 1, 0⟩ : S50), ⟨n, (-1), 5⟩, ⟨n, 6, 5⟩, ⟨1152921504606846977, 1, 5⟩, ⟨(-1152921504606846977), 1, 5⟩, ⟨n, 1, 1152921504606846977⟩] : List S50) → unit_Ratio.f 40 x.f0 x.f1 x.f2 = some 0 := by
    intro x hx
    simp only [List.mem_cons, List.not_mem_nil, or_false] at hx
    rcases hx with rfl | rfl | rfl | rfl | rfl | rfl <;> exact Ratio_no _ _ _ (by simp) 40 (by decide)
  have hmem : rd_T50 [(⟨n, 1, 0⟩ : S50), ⟨n, (-1), 5⟩, ⟨n, 6, 5⟩, ⟨1152921504606846977, 1, 5⟩, ⟨(-1152921504606846977), 1, 5⟩, ⟨n, 1, 1152921504606846977⟩] i ∈ ([(⟨n, 1, 0⟩ : S50), ⟨n, (-1), 5⟩, ⟨n, 6, 5⟩, ⟨1152921504606846977, 1, 5⟩, ⟨(-1152921504606846977), 1, 5⟩, ⟨n, 1, 1152921504606846977⟩] : List S50) := by
    unfold rd_T50
    have : i.toNat < 6 := by omega
    rw [List.getD_eq_getElem?_getD, List.getElem?_eq_getElem (by simpa using this), Option.getD_some]
    exact List.getElem_mem _
  rw [R _ hmem]
  simp only [Option.bind_some, if_true]
  have W : unit_Share.f 40 n (rd_L2 [[1, -1], [1125899906842625], List.replicate 1001 0] j) = some [] := by
    have : j = 0 ∨ j = 1 ∨ j = 2 := by omega
    rcases this with rfl | rfl | rfl
    · exact share_bad1 n (by omega) (by omega) 40 (by decide)
    · exact share_bad2 n (by omega) (by omega) 40 (by decide)
    · exact Share_far n _ (Or.inl (by show 1000 < (List.replicate 1001 (0 : Int)).length; rw [List.length_replicate]; decide)) 40 (by decide)
  have z : (([] : List Int).length : Int) = 0 := rfl
  have z' : ((share n []).length : Int) = 0 := rfl
  rw [W]
  simp only [Option.bind_some]
  rw [if_pos z, Share_far 1152921504606846977 [1] (by simp) 40 (by decide)]
  simp only [Option.bind_some]
  rw [if_pos z, Share_eq n (by omega) (by omega) [] (by simp) (by simp) 40 (by decide)]
  simp only [Option.bind_some]
  rw [if_pos z', Share_eq 1152921504606846976 (by decide) (by decide) [1] (by simp) (by simp) 40 (by decide)]
  simp only [Option.bind_some]
  rw [show share 1152921504606846976 [1] = [1152921504606846976] from by decide, Same_refl_one _ 40 (by decide)]
  simp only [Option.bind_some, if_true]
  rw [awake_true _ (by decide)]
  rfl
end Go.Proofs.Ytlnhhamfmnjapaa.Pure
