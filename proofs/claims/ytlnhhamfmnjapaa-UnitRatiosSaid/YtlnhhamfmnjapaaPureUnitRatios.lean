/- UnitRatios holds: a part of a number is the greatest whole one that is not above it; of the whole it is all, of none nothing; greater parts are no less. For any four numbers; no condition. -/
import Derived.Test.YtlnhhamfmnjapaaTUnitRatios
namespace Go.Proofs.Ytlnhhamfmnjapaa.Pure
open Go.RowKit Go.Proofs.Ytlnhhamfmnjapaa.PUnitRatios Go.Proofs.YtlnhhamfmnjapaaW.PrintWords Go.Proofs.YtlnhhamfmnjapaaW.PrintLast Go.Proofs.YtlnhhamfmnjapaaW.PrintMore
open Go.Proofs.Ytlnhhamfmnjapaa.PUnitRatios.U
set_option linter.unusedVariables false

theorem u64_bd (x : Int) : 0 ≤ IntKind.u64.wrap x ∧ IntKind.u64.wrap x < 18446744073709551616 := by
  simp [IntKind.wrap, IntKind.bits, IntKind.signed]; omega
theorem u64_tmod (x m : Int) (h0 : 0 < m) (h1 : m ≤ 9223372036854775807) : ∃ r, wrap64 (Int.tmod (IntKind.u64.wrap x) m) = r ∧ 0 ≤ r ∧ r < m := by
  have ⟨a, b⟩ := u64_bd x
  rw [Int.tmod_eq_emod_of_nonneg a]
  have c := Int.emod_nonneg (IntKind.u64.wrap x) (b := m) (by omega)
  have d := Int.emod_lt_of_pos (IntKind.u64.wrap x) h0
  exact ⟨_, w64 (by omega) (by omega), c, d⟩

theorem core (n c lo hi : Int) (k : Nat) (n0 : -1073741824 ≤ n) (n1 : n ≤ 1073741824) (c0 : 1 ≤ c) (c1 : c ≤ 1073741824) (l0 : 0 ≤ lo) (l1 : lo ≤ c) (h0 : 0 ≤ hi) (h1 : hi ≤ c) (hk : 40 ≤ k) :
    quoinlaw1_UnitRatios.j0 k n c lo (n * lo / c) true = some true := by
  obtain ⟨k, rfl⟩ : ∃ m, k = m + 1 := ⟨k - 1, by omega⟩
  have hc : 0 < c := by omega
  have ⟨x0, x1⟩ := ratio_bd (n := n) (p := lo) (w := c) (by omega) (by omega) l0 l1
  have ⟨m0, m1⟩ := mul_bd (A := 1073741824) (B := 1073741824) n0 n1 (show -1073741824 ≤ lo by omega) (by omega)
  have e := Int.mul_ediv_add_emod (n * lo) c
  have r0 := Int.emod_nonneg (n * lo) (b := c) (by omega)
  have r1 := Int.emod_lt_of_pos (n * lo) hc
  have e' : n * lo / c * c = n * lo - n * lo % c := by rw [Int.mul_comm]; omega
  simp only [quoinlaw1_UnitRatios.j0]
  rw [w64 (x := n * lo / c * c) (by omega) (by omega), w64 (x := n * lo) (by omega) (by omega), if_pos (by omega), w64 (x := n * lo / c * c + c) (by omega) (by omega), if_pos (by omega), if_pos trivial]
  rw [Ratio_eq n c c (by omega) (by omega) (by omega) (by omega) c0 (by omega) k (by omega)]
  simp only [Option.bind_some]
  rw [if_pos (Int.mul_ediv_cancel _ (by omega)), Ratio_eq n 0 c (by omega) (by omega) (by omega) (by omega) c0 (by omega) k (by omega)]
  simp only [Option.bind_some]
  rw [if_pos (by rw [Int.mul_zero, Int.zero_ediv]), w64 (x := 2 * lo) (by omega) (by omega), w64 (x := 2 * c) (by omega) (by omega), Ratio_eq n (2 * lo) (2 * c) (by omega) (by omega) (by omega) (by omega) (by omega) (by omega) k (by omega)]
  simp only [Option.bind_some]
  rw [if_pos (by rw [show n * (2 * lo) = 2 * (n * lo) from by rw [← Int.mul_assoc, Int.mul_comm n 2, Int.mul_assoc]]; exact Int.mul_ediv_mul_of_pos _ _ (by decide)), awake_true k (by omega)]
  rfl

theorem UnitRatios : quoinlaw1_UnitRatios.Pure := by
  intro a0 a1 a2 a3 _ _ _ _
  refine ⟨41, ?_⟩
  obtain ⟨n, hn, n0, n1⟩ := Tame_some a0 1073741824 (by decide) (by decide)
  obtain ⟨c', hc', c0, c1⟩ := u64_tmod a3 1073741824 (by decide) (by decide)
  obtain ⟨a, ha, p0, p1⟩ := u64_tmod a1 (c' + 1 + 1) (by omega) (by omega)
  obtain ⟨b, hb, q0, q1⟩ := u64_tmod a2 (c' + 1 + 1) (by omega) (by omega)
  unfold quoinlaw1_UnitRatios.f
  rw [hn]
  simp only [Option.bind_some]
  rw [hc', w64 (x := c' + 1) (by omega) (by omega), w64 (x := c' + 1 + 1) (by omega) (by omega), u64w (x := c' + 1 + 1) (by omega) (by omega), ha, hb, if_neg (by omega)]
  obtain ⟨c, hc⟩ : ∃ c, c = c' + 1 := ⟨_, rfl⟩
  rw [← hc] at p1 q1 ⊢
  obtain ⟨lo, hlo⟩ : ∃ lo, lo = mn a b := ⟨_, rfl⟩
  obtain ⟨hi, hhi⟩ : ∃ hi, hi = mx a b := ⟨_, rfl⟩
  rw [← hlo, ← hhi]
  have f : lo ≤ hi ∧ 0 ≤ lo ∧ hi ≤ c := by
    rw [hlo, hhi]; unfold mn mx; split <;> split <;> omega
  rw [Ratio_eq n lo c (by omega) (by omega) (by omega) (by omega) (by omega) (by omega) 41 (by decide), Ratio_eq n hi c (by omega) (by omega) (by omega) (by omega) (by omega) (by omega) 41 (by decide)]
  simp only [Option.bind_some]
  have C := core n c lo hi 41 n0 n1 (by omega) (by omega) (by omega) (by omega) (by omega) (by omega) (by decide)
  by_cases s : 0 ≤ n
  · have h : n * lo / c ≤ n * hi / c := Int.ediv_le_ediv (by omega) (Int.mul_le_mul_of_nonneg_left f.1 s)
    rw [if_pos s, if_pos h, C]
  · have h : n * hi / c ≤ n * lo / c := Int.ediv_le_ediv (by omega) (Int.mul_le_mul_of_nonpos_left (by omega) f.1)
    rw [if_neg s, if_pos (by omega), decide_eq_true h, C]
end Go.Proofs.Ytlnhhamfmnjapaa.Pure
