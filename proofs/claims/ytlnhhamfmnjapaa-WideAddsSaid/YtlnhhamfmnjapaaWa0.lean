import Derived.Test.YtlnhhamfmnjapaaWd3
namespace Go.Proofs.Ytlnhhamfmnjapaa
open Go.RowKit Go.Proofs.YtlnhhamfmnjapaaW.PrintWords Go.Proofs.YtlnhhamfmnjapaaW.PrintLast Go.Proofs.YtlnhhamfmnjapaaW.PrintMore
open PUnitRounds PUnitRounds.U
set_option linter.unusedVariables false
structure Sane (f : Nat → Int) : Prop where
  nr : ∀ i, i < 43 → Near (f i)
  k9 : f 9 = 0 ∨ f 9 = 1 ∨ f 9 = 2
structure Adds (f : Nat → Int) (base l w r : Int) : Prop where
  sum : l + (f 32 + f 36) + (f 34 + f 38) + w + r = base
  lo : lstN f base ≤ w
  hi : 0 ≤ mstN f base → w ≤ max (mstN f base) (lstN f base)
  left : sideB (f 29) = true → l = mlN f base
  ge : 0 ≤ w
  auto : sideB (f 29) = false → sideB (f 25) = false → 0 ≤ base - w - (f 32 + f 36) - (f 34 + f 38) → f 9 ≠ 0 → 0 ≤ r - l ∧ r - l ≤ 1
  bl : -17592186044416 ≤ l ∧ l ≤ 17592186044416
  bw : w ≤ 687194767360
  br : -17592186044416 ≤ r ∧ r ≤ 17592186044416
theorem width_adds (f : Nat → Int) (base : Int) (h : Sane f) (hb : Near base) : ∃ l w r, widthV f base = .agg #[.int .i64 l, .int .i64 w, .int .i64 r] ∧ Adds f base l w r := by
  have B := bds f base h.nr hb
  obtain ⟨ml0, ml1⟩ := B.ml
  obtain ⟨mr0, mr1⟩ := B.mr
  have Bl := B.l
  have Br := B.r
  have Bw := B.w
  have Bo := B.over
  have hlo : lstN f base ≤ wN f base := by unfold wN clampN; omega
  have hhi : 0 ≤ mstN f base → 0 ≤ lstN f base → wN f base ≤ max (mstN f base) (lstN f base) := by
    intro h0 h1
    unfold wN clampN
    rw [if_pos h0]
    omega
  have hl0 : 0 ≤ lstN f base := (len_near (h.nr 14 (by omega))).1
  have hov : overN f base = base - wN f base - (f 34 + f 38) - (f 32 + f 36) - mlN f base - mrN f base := rfl
  have z29 : sideB (f 29) = false → mlN f base = 0 := by
    intro hs
    unfold mlN sideN
    unfold sideB at hs
    simp at hs
    rw [if_neg hs.1, if_neg hs.2]
  have z25 : sideB (f 25) = false → mrN f base = 0 := by
    intro hs
    unfold mrN sideN
    unfold sideB at hs
    simp at hs
    rw [if_neg hs.1, if_neg hs.2]
  have k9 : f 9 ≠ 0 → sideB (f 9) = true := by
    intro h0
    rcases h.k9 with e | e | e
    · exact absurd e h0
    · rw [e]; rfl
    · rw [e]; rfl
  unfold widthV
  by_cases hc : sideB (f 9) = false ∧ wN f base = w0N f base
  · rw [if_pos hc]
    have hw : w0N f base = base - mlN f base - mrN f base - (f 34 + f 38) - (f 32 + f 36) := by
      unfold w0N
      rw [if_neg (by rw [hc.1]; decide)]
    have hw' := hc.2
    refine ⟨_, _, _, rfl, ?_, hlo, fun a => hhi a hl0, fun _ => rfl, Bw.1, fun _ _ _ h9 => ?_, ⟨by omega, by omega⟩, Bw.2, ⟨by omega, by omega⟩⟩
    · omega
    · have := k9 h9
      rw [hc.1] at this
      cases this
  · rw [if_neg hc]
    unfold sharedN
    generalize overN f base = o at *
    generalize wN f base = w at *
    by_cases h1 : o < 0 ∨ (!sideB (f 29)) = false
    · rw [if_pos h1]
      refine ⟨_, _, _, rfl, by omega, hlo, fun a => hhi a hl0, fun _ => rfl, Bw.1, fun h29 h25 hf _ => ?_, ⟨by omega, by omega⟩, Bw.2, ⟨by omega, by omega⟩⟩
      have e1 := z29 h29
      have e2 := z25 h25
      rcases h1 with h1 | h1
      · omega
      · rw [h29] at h1; cases h1
    · rw [if_neg h1]
      have h29 : sideB (f 29) = false := by
        cases hs : sideB (f 29)
        · rfl
        · exact absurd (.inr (by rw [hs]; rfl)) h1
      have ho : 0 ≤ o := by
        by_cases h0 : o < 0
        · exact absurd (.inl h0) h1
        · omega
      have e1 := z29 h29
      by_cases h2 : (!sideB (f 25)) = true
      · rw [if_pos h2]
        have h25 : sideB (f 25) = false := by
          cases hs : sideB (f 25)
          · rfl
          · rw [hs] at h2; cases h2
        have e2 := z25 h25
        refine ⟨_, _, _, rfl, by omega, hlo, fun a => hhi a hl0, fun hh => ?_, Bw.1, fun _ _ _ _ => ⟨by omega, by omega⟩, ⟨by omega, by omega⟩, Bw.2, ⟨by omega, by omega⟩⟩
        rw [h29] at hh; cases hh
      · rw [if_neg h2]
        refine ⟨_, _, _, rfl, by omega, hlo, fun a => hhi a hl0, fun hh => ?_, Bw.1, fun _ h25 _ _ => ?_, ⟨by omega, by omega⟩, Bw.2, ⟨by omega, by omega⟩⟩
        · rw [h29] at hh; cases hh
        · rw [h25] at h2; exact absurd rfl h2
end Go.Proofs.Ytlnhhamfmnjapaa
