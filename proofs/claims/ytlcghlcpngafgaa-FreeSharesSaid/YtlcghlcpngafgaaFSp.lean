/- What FreeShares asks of free.Resolve, in plain Lean. No Go in sight. -/
import Derived.Test.YtlcghlcpngafgaaFPl
namespace Go.Proofs.Ytlcghlcpngafgaa.PFree
open Go.RowKit Go.Proofs.YtlcghlcpngafgaaW.PrintWords Go.Proofs.YtlcghlcpngafgaaW.PrintLast Go.Proofs.YtlcghlcpngafgaaW.PrintMore
set_option linter.unusedVariables false
def sumP (l : List S39) (P : Nat → Int) : Nat → Int
  | 0 => 0
  | i + 1 => sumP l P i + (P i + (itm l i).f5)
theorem rst_sumP (l : List S39) (inner : Int) (P : Nat → Int) : ∀ i, rst l inner P i = inner - sumP l P i := by
  intro i
  induction i with
  | zero => simp [rst, sumP]
  | succ i ih => simp only [rst, sumP, ih]; omega
theorem sumP_bd {l : List S39} (hok : ∀ x ∈ l, OkX x) {P : Nat → Int} (hP : ∀ i, i < l.length → 0 ≤ P i ∧ P i ≤ 288230376151711744) : ∀ i : Nat, i ≤ l.length → -((i : Int) * 8796093022208) ≤ sumP l P i ∧ sumP l P i ≤ (i : Int) * 288239172244733952 := by
  intro i
  induction i with
  | zero => intro _; simp [sumP]
  | succ i ih =>
    intro hi
    obtain ⟨h1, h2⟩ := ih (by omega)
    have hx := okx_itm hok (show i < l.length by omega)
    have hp := hP i (by omega)
    obtain ⟨a0, a1, a2, a3, a4, a5, a6, a7, a8, a9, a10, a11⟩ := hx
    simp only [sumP]; omega
def InBd (x : S39) (p : Int) : Prop := x.f1 ≤ p ∧ 0 ≤ p ∧ p ≤ 288230376151711744 ∧ (0 ≤ x.f2 → p ≤ x.f2 ∨ p ≤ x.f1)
def EndG (x : S39) (p : Int) : Prop := 0 < x.f3 → 0 ≤ x.f2 ∧ x.f2 ≤ p ∧ x.f1 ≤ p
def EndS (x : S39) (p : Int) : Prop := 0 < x.f4 → 0 < x.f0 → hyp x ≤ x.f0 → p ≤ x.f1 ∨ p ≤ 0
theorem clamp_in {x : S39} (hx : OkX x) {u p : Int} (h : p = clampI x u) (hb : p ≤ 288230376151711744) : InBd x p := by
  obtain ⟨a0, a1, a2, a3, a4, a5, a6, a7, a8, a9, a10, a11⟩ := hx
  subst h
  unfold InBd clampI at *
  split at hb <;> split <;> (try contradiction) <;> refine ⟨?_, ?_, hb, fun _ => ?_⟩ <;> omega
theorem shares_res (r : List S39) (hr : r.length ≤ 12) (hok : ∀ x ∈ r, OkX x) (inner : Int) (h0 : 0 ≤ inner) (h1 : inner ≤ 8796093022208) : ∃ R : List Int, free_Resolve.f r inner = some R ∧ R.length = r.length ∧ (∀ i, i < r.length → InBd (itm r i) (R.getD i 0)) ∧
    (sumP r (fun i => R.getD i 0) r.length ≠ inner → ∀ i, i < r.length → if sumH r r.length < inner then sumP r (fun i => R.getD i 0) r.length < inner ∧ EndG (itm r i) (R.getD i 0) else inner < sumP r (fun i => R.getD i 0) r.length ∧ EndS (itm r i) (R.getD i 0)) := by
  rw [free_Resolve.eq]
  by_cases hz : r.length = 0
  · have q : okR r inner = false := by simp [okR, hz]
    exact ⟨[], by rw [q]; simp, by rw [hz]; rfl, fun i hi => by omega, fun _ i hi => by omega⟩
  · have q : okR r inner = true := by
      simp only [okR, okL, Bool.and_eq_true, decide_eq_true_eq]
      exact ⟨⟨⟨⟨hok, by omega⟩, by omega⟩, by omega⟩, by omega⟩
    refine ⟨rslv r inner, by rw [if_pos q], rslv_length _ _, fun i hi => ?_, fun hne i hi => ?_⟩
    · obtain ⟨u, hu⟩ := rslv_clamp (inner := inner) hi
      exact clamp_in (okx_itm hok hi) hu (rslv_bd (by omega) (by omega) (by omega) hok hi).2
    · have hg : grw r inner = decide (sumH r r.length < inner) := rfl
      have hc := cnt_le (fun i => fix0 (grw r inner) (itm r i)) r.length
      have hs : rst r inner (iter r (grw r inner) inner r.length (fun i => hyp (itm r i)) (fun i => fix0 (grw r inner) (itm r i))) r.length = inner - sumP r (fun i => (rslv r inner).getD i 0) r.length := by
        rw [← rst_sumP]
        exact rst_congr _ (fun j hj => (rslv_get r inner hj).symm)
      split
      · rename_i hlt
        have hgr : grw r inner = true := by rw [hg]; exact decide_eq_true hlt
        have hE := grow_end hok r.length _ _ (by rw [hgr] at hc; exact hc) (start_G hok inner hgr)
        rw [hgr] at hs
        rcases hE with hE | ⟨hE, hF⟩
        · rw [hs] at hE; omega
        · rw [hs] at hE
          refine ⟨by omega, fun h3 => ?_⟩
          obtain ⟨b1, b2⟩ := hF i hi (by omega)
          rw [rslv_get r inner hi, hgr]
          exact ⟨b1, by omega, by omega⟩
      · rename_i hlt
        have hgr : grw r inner = false := by rw [hg]; exact decide_eq_false hlt
        have hE := shrink_end hok r.length _ _ (by rw [hgr] at hc; exact hc) (start_S hok inner hgr)
        rw [hgr] at hs
        rcases hE with hE | ⟨hE, hF⟩
        · rw [hs] at hE; omega
        · rw [hs] at hE
          refine ⟨by omega, fun h4 h5 h6 => ?_⟩
          have b := hF i hi (by omega) h5 h6
          rw [rslv_get r inner hi, hgr]
          omega
end Go.Proofs.Ytlcghlcpngafgaa.PFree
