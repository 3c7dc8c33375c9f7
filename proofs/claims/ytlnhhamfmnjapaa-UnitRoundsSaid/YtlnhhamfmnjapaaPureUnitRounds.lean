/- UnitRounds holds: pixels and hundredths are rounded to the nearest unit, a half up; whole ones are exact; what is too great is held. For any three numbers; no condition. -/
import Derived.Test.YtlnhhamfmnjapaaTUnitRounds
namespace Go.Proofs.Ytlnhhamfmnjapaa.Pure
open Go.RowKit Go.Proofs.Ytlnhhamfmnjapaa.PUnitRounds Go.Proofs.YtlnhhamfmnjapaaW.PrintWords Go.Proofs.YtlnhhamfmnjapaaW.PrintLast
open Go.Proofs.Ytlnhhamfmnjapaa.PUnitRounds.U
set_option linter.unusedVariables false

theorem UnitRounds : quoinlaw1_UnitRounds.Pure := by
  intro a0 a1 a2 _ _ _
  refine ⟨40, ?_⟩
  obtain ⟨t, ht, t0, t1⟩ := Tame_some a0 10000000000 (by decide) (by decide)
  obtain ⟨b, hb, b0, b1⟩ := Tame_some a1 1073741824 (by decide) (by decide)
  obtain ⟨h, hh, h0, h1⟩ := Tame_some a2 10000 (by decide) (by decide)
  unfold quoinlaw1_UnitRounds.f
  simp only [ht, hb, hh, Option.bind_some, Px_eq, Pct_eq]
  have ⟨m0, m1⟩ := mul_bd (A := 1073741824) (B := 10000) b0 b1 h0 h1
  have ex : px t = (2 * (64 * t) + 1000) / 2000 := by
    unfold px; rw [held_id (n := t) (by omega) (by omega), held_id (by omega) (by omega)]
  have ey : pct b h = (2 * (b * h) + 10000) / 20000 := by
    unfold pct; rw [held_id (n := b) (by omega) (by omega), held_id (n := h) (by omega) (by omega), held_id (by omega) (by omega)]
  have e2 : 2 * b * h = 2 * (b * h) := Int.mul_assoc _ _ _
  have wb : wrap64 (2 * b) = 2 * b := w64 (by omega) (by omega)
  have w := tmod_bd t 10000000 (by decide)
  obtain ⟨v, hv⟩ : ∃ v, v = t.tmod 10000000 := ⟨_, rfl⟩
  rw [← hv] at w
  have ew : px (1000 * v) = 64 * v := by
    unfold px; rw [held_id (n := 1000 * v) (by omega) (by omega)]
    rw [show (2 * (64 * (1000 * v)) + 1000) / 2000 = 64 * v from by omega, held_id (by omega) (by omega)]
  have e10 : pct b 10000 = b := by
    unfold pct; rw [held_id (n := b) (by omega) (by omega), held_id (n := 10000) (by decide) (by decide)]
    rw [show (2 * (b * 10000) + 10000) / 20000 = b from by omega, held_id (by omega) (by omega)]
  have e0 : pct b 0 = 0 := by
    unfold pct; rw [held_id (n := 0) (by decide) (by decide), Int.mul_zero]; rfl
  have ef : px 4611686018427387904 = 1073741824 := by decide
  have eg : pct (-1073741824) 1099511627776 = -1073741824 := by decide
  have J1 : quoinlaw1_UnitRounds.j1 39 t b true true = some true := by
    simp only [quoinlaw1_UnitRounds.j1, if_true, Px_eq, Pct_eq, Option.bind_some, ← hv]
    rw [w64 (x := 1000 * v) (by omega) (by omega), w64 (x := 64 * v) (by omega) (by omega), ew, if_pos rfl, e10, if_pos rfl, e0, if_pos rfl, ef, if_pos rfl, eg, if_pos rfl, awake_true _ (by decide)]
    rfl
  have J0 : quoinlaw1_UnitRounds.j0 40 t b h (pct b h) true = some true := by
    simp only [quoinlaw1_UnitRounds.j0]
    rw [wb, e2, ey]
    generalize b * h = z at *
    rw [w64 (x := 20000 * ((2 * z + 10000) / 20000)) (by omega) (by omega), w64 (x := 2 * z) (by omega) (by omega), w64 (by omega) (by omega), if_pos (by omega), decide_eq_true (by omega), J1]
  rw [ex, w64 (x := 2000 * ((2 * (64 * t) + 1000) / 2000)) (by omega) (by omega), w64 (x := 128 * t) (by omega) (by omega), w64 (x := 2000 * ((2 * (64 * t) + 1000) / 2000) - 128 * t) (by omega) (by omega)]
  rw [if_pos (by omega), decide_eq_true (by omega), J0]
end Go.Proofs.Ytlnhhamfmnjapaa.Pure
