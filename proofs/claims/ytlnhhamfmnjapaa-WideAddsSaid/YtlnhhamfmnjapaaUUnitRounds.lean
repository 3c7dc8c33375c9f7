import Derived.Test.YtlnhhamfmnjapaaPUnitRoundsx
namespace Go.Proofs.Ytlnhhamfmnjapaa.PUnitRounds.U
open Go.RowKit Go.Proofs.YtlnhhamfmnjapaaW.PrintWords Go.Proofs.YtlnhhamfmnjapaaW.PrintLast Go.Proofs.YtlnhhamfmnjapaaW.PrintMore
set_option linter.unusedVariables false
set_option linter.unusedSimpArgs false
theorem w64 {x : Int} (h0 : -9223372036854775808 ≤ x) (h1 : x < 9223372036854775808) : wrap64 x = x := by unfold wrap64; omega
def held (n m : Int) : Int := if n < -m then -m else if m < n then m else n
theorem held_bd {n m : Int} (hm : 0 ≤ m) : -m ≤ held n m ∧ held n m ≤ m := by unfold held; split <;> (try split) <;> omega
theorem within_eq (n m : Int) (hm : 0 ≤ m) (hm1 : m < 9223372036854775808) : unit_within.f n m = some (held n m) := by
  unfold unit_within.f held mx mn
  rw [w64 (by omega) (by omega)]
  congr 1
  split <;> split <;> (try split) <;> omega
theorem Hold_eq (n : Int) : unit_Hold.f n = some (held n 1073741824) := by
  unfold unit_Hold.f; rw [within_eq n _ (by decide) (by decide)]; rfl
theorem floor_eq (a b : Int) (hb : 0 < b) (ha0 : -9223372036854775807 ≤ a) (ha1 : a < 9223372036854775808) (hb1 : b < 9223372036854775808) : unit_floor.f a b = some (a / b) := by
  unfold unit_floor.f
  rw [if_neg (by omega)]
  have e1 := Int.mul_ediv_add_emod a b
  have e2 := Int.mul_tdiv_add_tmod a b
  have m0 := Int.emod_nonneg a (b := b) (by omega)
  have m1 := Int.emod_lt_of_pos a hb
  by_cases h : 0 ≤ a
  · have t : Int.tmod a b = a % b := Int.tmod_eq_emod_of_nonneg h
    have q : Int.tdiv a b = a / b := Int.tdiv_eq_ediv_of_nonneg h
    have q0 : 0 ≤ a / b := Int.ediv_nonneg h (by omega)
    have q1 : a / b ≤ a := Int.ediv_le_self _ h
    rw [t, q, if_neg (by omega), w64 (by omega) (by omega)]
  · obtain ⟨c, rfl⟩ : ∃ c, a = -c := ⟨-a, by omega⟩
    have hc : 0 ≤ c := by omega
    have t : Int.tmod (-c) b = -(c % b) := by rw [Int.neg_tmod, Int.tmod_eq_emod_of_nonneg hc]
    have q : Int.tdiv (-c) b = -(c / b) := by rw [Int.neg_tdiv, Int.tdiv_eq_ediv_of_nonneg hc]
    have n0 := Int.emod_nonneg c (b := b) (by omega)
    have n1 := Int.emod_lt_of_pos c hb
    have f := Int.mul_ediv_add_emod c b
    have q0 : 0 ≤ c / b := Int.ediv_nonneg hc (by omega)
    have q1 : c / b ≤ c := Int.ediv_le_self _ hc
    rw [t, q]
    by_cases hz : c % b = 0
    · rw [if_neg (by omega), w64 (by omega) (by omega)]
      have : -c / b = -(c / b) := ((Int.ediv_emod_unique (r := 0) (q := -(c / b)) hb).2 ⟨by rw [Int.mul_neg]; omega, by omega, hb⟩).1
      rw [this]
    · rw [if_pos (by omega), w64 (x := -(c / b)) (by omega) (by omega), w64 (by omega) (by omega)]
      have : -c / b = -(c / b) - 1 := ((Int.ediv_emod_unique (r := b - c % b) (q := -(c / b) - 1) hb).2 ⟨by rw [Int.mul_sub, Int.mul_neg]; omega, by omega, by omega⟩).1
      rw [this]
theorem nearest_eq (a b : Int) (hb : 0 < b) (ha0 : -4000000000000000000 ≤ a) (ha1 : a ≤ 4000000000000000000) (hb1 : b ≤ 1000000000000) : unit_nearest.f a b = some ((2 * a + b) / (2 * b)) := by
  unfold unit_nearest.f
  rw [w64 (x := 2 * a) (by omega) (by omega), w64 (x := 2 * a + b) (by omega) (by omega), w64 (x := 2 * b) (by omega) (by omega), floor_eq _ _ (by omega) (by omega) (by omega) (by omega)]; rfl
def px (t : Int) : Int := held ((2 * (64 * held t 1000000000000) + 1000) / 2000) 1073741824
theorem mul_bd {a b A B : Int} (ha0 : -A ≤ a) (ha1 : a ≤ A) (hb0 : -B ≤ b) (hb1 : b ≤ B) : -(A * B) ≤ a * b ∧ a * b ≤ A * B := by
  have hA : 0 ≤ A := by omega
  have hB : 0 ≤ B := by omega
  have k : (a * b).natAbs ≤ (A * B).natAbs := by
    rw [Int.natAbs_mul, Int.natAbs_mul]
    exact Nat.mul_le_mul (by omega) (by omega)
  have : 0 ≤ A * B := Int.mul_nonneg hA hB
  omega
def pct (b h : Int) : Int := held ((2 * (held b 1073741824 * held h 1000000000) + 10000) / 20000) 1073741824
theorem Pct_eq (b h : Int) : unit_Pct.f b h = some (pct b h) := by
  unfold unit_Pct.f pct
  have ⟨h0, h1⟩ := held_bd (n := b) (m := 1073741824) (by decide)
  have ⟨k0, k1⟩ := held_bd (n := h) (m := 1000000000) (by decide)
  have ⟨m0, m1⟩ := mul_bd h0 h1 k0 k1
  rw [Hold_eq, within_eq h _ (by decide) (by decide)]
  simp only [Option.bind_some]
  rw [w64 (by omega) (by omega), nearest_eq _ _ (by decide) (by omega) (by omega) (by decide)]
  simp only [Option.bind_some, Hold_eq]
  rfl
def total : List Int → Int
  | [] => 0
  | w :: ws => w + total ws
def parts (n W : Int) : Int → Int → List Int → List Int
  | _, _, [] => []
  | a, l, w :: ws => (n * (a + w) / W - l) :: parts n W (a + w) (n * (a + w) / W) ws
def share (n : Int) (ws : List Int) : List Int := parts n (total ws) 0 0 ws
def sumHeld : Int → List Int → Int
  | s, [] => s
  | s, x :: l => sumHeld (held (s + held x 1073741824) 1073741824) l
end Go.Proofs.Ytlnhhamfmnjapaa.PUnitRounds.U
