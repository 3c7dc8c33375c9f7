/- Sharing by the weights of those that turn, alone: the same parts as by weights that are 0 for the others. Plain. -/
import Derived.Test.YtlcghlcpngafgaaFRm
namespace Go.Proofs.Ytlcghlcpngafgaa.PFree
open Go.RowKit Go.Proofs.YtlcghlcpngafgaaW.PrintWords Go.Proofs.YtlcghlcpngafgaaW.PrintLast Go.Proofs.YtlcghlcpngafgaaW.PrintMore
set_option linter.unusedVariables false
/-- The weights of those of the first i that turn. -/
def cw (l : List S39) (gr : Bool) (fz : Nat → Bool) : Nat → List Int
  | 0 => []
  | i + 1 => if fz i = true then cw l gr fz i else cw l gr fz i ++ [wgt gr (itm l i)]
theorem cnt_succ (fz : Nat → Bool) (i : Nat) : cnt fz (i + 1) = cnt fz i + (if fz i = true then 0 else 1) := by
  simp only [cnt]
theorem cw_len (l : List S39) (gr : Bool) (fz : Nat → Bool) : ∀ i, (cw l gr fz i).length = cnt fz i := by
  intro i
  induction i with
  | zero => rfl
  | succ i ih =>
    rw [cnt_succ]
    simp only [cw]
    split
    · rw [ih, Nat.add_zero]
    · rw [List.length_append, ih]; rfl
theorem cw_pre (l : List S39) (gr : Bool) (fz : Nat → Bool) (i : Nat) : ∀ d, ∃ t, cw l gr fz (i + d) = cw l gr fz i ++ t := by
  intro d
  induction d with
  | zero => exact ⟨[], by simp⟩
  | succ d ih =>
    obtain ⟨t, ht⟩ := ih
    show ∃ t', cw l gr fz ((i + d) + 1) = _
    simp only [cw]
    split
    · exact ⟨t, ht⟩
    · exact ⟨t ++ [wgt gr (itm l (i + d))], by rw [ht, List.append_assoc]⟩
theorem total_wts (l : List S39) (gr : Bool) (fz : Nat → Bool) : ∀ i, U.total (cw l gr fz i) = U.total (wts l gr fz i) := by
  intro i
  induction i with
  | zero => rfl
  | succ i ih =>
    unfold wts
    rw [lst_succ, U.total_append]
    have e : U.total (lst i fun i => if fz i = true then 0 else wgt gr (itm l i)) = U.total (wts l gr fz i) := rfl
    rw [e, ← ih]
    simp only [cw]
    split
    · simp [U.total]
    · rw [U.total_append]
theorem wts_take (l : List S39) (gr : Bool) (fz : Nat → Bool) (n i : Nat) (h : i ≤ n) : (wts l gr fz n).take i = wts l gr fz i := by
  unfold wts lst
  rw [← List.map_take, List.take_range, Nat.min_eq_left h]
theorem ahd_cw (x : Int) (l : List S39) (gr : Bool) (fz : Nat → Bool) (n i : Nat) (h : i ≤ n) : ahd x (cw l gr fz n) (cnt fz i) = ahd x (wts l gr fz n) i := by
  unfold ahd
  obtain ⟨t, ht⟩ := cw_pre l gr fz i (n - i)
  rw [show i + (n - i) = n by omega] at ht
  have e : (cw l gr fz n).take (cnt fz i) = cw l gr fz i := by
    rw [ht, ← cw_len l gr fz i]
    exact List.take_left
  rw [e, total_wts, total_wts, wts_take l gr fz n i h]
theorem cw_mem {l : List S39} {gr : Bool} {fz : Nat → Bool} : ∀ i, i ≤ l.length → (∀ x ∈ l, OkX x) → ∀ x ∈ cw l gr fz i, 0 ≤ x ∧ x ≤ 1125899906842624 := by
  intro i
  induction i with
  | zero => intro _ _ x hx; simp [cw] at hx
  | succ i ih =>
    intro hi hok x hx
    simp only [cw] at hx
    split at hx
    · exact ih (by omega) hok x hx
    · rw [List.mem_append, List.mem_singleton] at hx
      rcases hx with hx | rfl
      · exact ih (by omega) hok x hx
      · have := wgt_bd' (gr := gr) (okx_itm hok (show i < l.length by omega))
        omega
theorem cnt_lt_of {fz : Nat → Bool} {i n : Nat} (h : i < n) (hf : fz i = false) : cnt fz i < cnt fz n := by
  have key : ∀ d, cnt fz (i + 1) ≤ cnt fz (i + 1 + d) := by
    intro d
    induction d with
    | zero => exact Nat.le_refl _
    | succ d ih => exact Nat.le_trans ih (by show _ ≤ cnt fz ((i + 1 + d) + 1); rw [cnt_succ]; omega)
  have h1 := key (n - (i + 1))
  rw [show i + 1 + (n - (i + 1)) = n by omega, cnt_succ, hf] at h1
  simp at h1
  omega
/-- The part of the one that turns, by its place among them. -/
theorem cprt (l : List S39) (gr : Bool) (sz : Nat → Int) (fz : Nat → Bool) (inner : Int) (i : Nat) (h : i < l.length) (hf : fz i = false) :
    (U.share (toS gr (inAt l sz fz inner l.length)) (cw l gr fz l.length)).getD (cnt fz i) 0 = prt l gr sz fz inner i := by
  rw [prt_eq l gr sz fz inner i h, share_at_ _ _ _ (by rw [cw_len]; exact cnt_lt_of h hf), ← ahd_cw _ l gr fz l.length i (by omega), ← ahd_cw _ l gr fz l.length (i + 1) (by omega), cnt_succ, hf]
  rfl
theorem cnt_more {fz : Nat → Bool} {n : Nat} : moreA fz n = true ↔ 0 < cnt fz n := by
  constructor
  · intro h
    rcases Nat.eq_zero_or_pos (cnt fz n) with h0 | h0
    · rw [cnt_zero n h0] at h; cases h
    · exact h0
  · intro h
    cases e : moreA fz n with
    | true => rfl
    | false =>
      exfalso
      have : ∀ i, i ≤ n → cnt fz i = 0 := by
        intro i
        induction i with
        | zero => intro _; rfl
        | succ i ih => intro hi; rw [cnt_succ, ih (by omega), if_pos (fz_all e (show i < n by omega))]
      rw [this n (Nat.le_refl _)] at h
      exact absurd h (Nat.lt_irrefl _)
/-- What is shared, as the document writes it. -/
theorem toS_max (n : Int) : toS true n = max n 0 := by
  unfold toS
  by_cases h : n > 0
  · simp [h]; omega
  · simp [h]; omega
theorem toS_min (n : Int) : toS false n = min n 0 := by
  unfold toS
  by_cases h : n > 0
  · simp [h]; omega
  · simp [h]; omega
end Go.Proofs.Ytlcghlcpngafgaa.PFree
