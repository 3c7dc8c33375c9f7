/- Plain facts: what quoinlaw18.Tame makes of any items may be; Hyp of the document. No Go in sight. -/
import Derived.Test.YtlcghlcpngafgaaFPl
import Derived.Test.YtlcghlcpngafgaaPFreex4
import Derived.Test.YtlcghlcpngafgaaPFreex7
namespace Go.Proofs.Ytlcghlcpngafgaa.PFree
open Go.RowKit Go.Proofs.YtlcghlcpngafgaaW.PrintWords Go.Proofs.YtlcghlcpngafgaaW.PrintLast Go.Proofs.YtlcghlcpngafgaaW.PrintMore
set_option linter.unusedVariables false

theorem u64_bd (x : Int) : 0 ≤ IntKind.u64.wrap x ∧ IntKind.u64.wrap x < 18446744073709551616 := by
  simp [IntKind.wrap, IntKind.bits, IntKind.signed]; omega
theorem tame_num (x m : Int) (hm : 0 < m) (hm1 : m ≤ 8796093022208) : 0 ≤ wrap64 (Int.tmod (IntKind.u64.wrap x) m) ∧ wrap64 (Int.tmod (IntKind.u64.wrap x) m) ≤ 8796093022208 := by
  have ⟨a, b⟩ := u64_bd x
  rw [Int.tmod_eq_emod_of_nonneg a]
  have h0 := Int.emod_nonneg (IntKind.u64.wrap x) (b := m) (by omega)
  have h1 := Int.emod_lt_of_pos (IntKind.u64.wrap x) hm
  rw [w64 (by omega) (by omega)]
  omega
theorem tame_3 (x : Int) : 0 ≤ Go.bits .and .i64 x 3 ∧ Go.bits .and .i64 x 3 ≤ 100 := by
  rw [show Go.bits .and .i64 x 3 = x % 4 from U.and_mask x 2 (by decide)]; omega
theorem tame_ar (x m : Int) (hm : 0 < m) (hm1 : m ≤ 8796093022208) : -8796093022208 ≤ Int.tmod x m ∧ Int.tmod x m ≤ 8796093022208 := by
  have h1 := Int.tmod_lt_of_pos x hm
  have h2 := Int.lt_tmod_of_pos x hm
  omega
theorem tame_x (a b c d e f m q : Int) (hm : 0 < m) (hm1 : m ≤ 8796093022208) (hq : 0 < q) (hq1 : q ≤ 8796093022208) (b' c' : Int) (hb : b' = 0 ∨ b' = wrap64 (Int.tmod (IntKind.u64.wrap b) m)) (hc : c' = -1 ∨ c' = wrap64 (Int.tmod (IntKind.u64.wrap c) m)) :
    OkX ⟨wrap64 (Int.tmod (IntKind.u64.wrap a) m), b', c', Go.bits .and .i64 d 3, Go.bits .and .i64 e 3, Int.tmod f q⟩ := by
  have h0 := tame_num a m hm hm1
  have h1 := tame_num b m hm hm1
  have h2 := tame_num c m hm hm1
  have h3 := tame_3 d
  have h4 := tame_3 e
  have h5 := tame_ar f q hq hq1
  unfold OkX; simp only
  rcases hb with rfl | rfl <;> rcases hc with rfl | rfl <;> omega
theorem tame_j2 (k : Nat) (l : List S39) (b : Bool) (acc : List S39) (i : Int) (m : Int) (hm : m = 200 ∨ m = 8796093022208) (f0 f1 f2 f3 f4 f5 : Int) (hl : acc.length < 2932031007402) : ∃ x, OkX x ∧ ∀ k, quoinlaw18_Tame.j2 (k + 1) l b acc i m f0 f1 f2 f3 f4 f5 = quoinlaw18_Tame.l0 k l b (acc ++ [x]) (wrap64 (i + 1)) := by
  have hq : wrap64 (IntKind.u64.wrap (Int.tdiv m 4)) = m / 4 := by
    rcases hm with rfl | rfl <;> decide +kernel
  by_cases h1 : (Go.bits .and .i64 (wrap64 (Int.tmod (IntKind.u64.wrap f1) m)) 1) = 1
  · by_cases h2 : (Go.bits .and .i64 (wrap64 (Int.tmod (IntKind.u64.wrap f2) m)) 3) > 0
    · exact ⟨_, tame_x f0 f1 f2 f3 f4 f5 m (m / 4) (by omega) (by omega) (by omega) (by omega) 0 (-1) (.inl rfl) (.inl rfl), fun k => by rw [quoinlaw18_Tame.j2, if_neg (by omega), hq, if_neg (by omega), if_pos h1, if_pos h2, if_pos hl]⟩
    · exact ⟨_, tame_x f0 f1 f2 f3 f4 f5 m (m / 4) (by omega) (by omega) (by omega) (by omega) 0 _ (.inl rfl) (.inr rfl), fun k => by rw [quoinlaw18_Tame.j2, if_neg (by omega), hq, if_neg (by omega), if_pos h1, if_neg h2, if_pos hl]⟩
  · by_cases h2 : (Go.bits .and .i64 (wrap64 (Int.tmod (IntKind.u64.wrap f2) m)) 3) > 0
    · exact ⟨_, tame_x f0 f1 f2 f3 f4 f5 m (m / 4) (by omega) (by omega) (by omega) (by omega) _ (-1) (.inr rfl) (.inl rfl), fun k => by rw [quoinlaw18_Tame.j2, if_neg (by omega), hq, if_neg (by omega), if_neg h1, if_pos h2, if_pos hl]⟩
    · exact ⟨_, tame_x f0 f1 f2 f3 f4 f5 m (m / 4) (by omega) (by omega) (by omega) (by omega) _ _ (.inr rfl) (.inr rfl), fun k => by rw [quoinlaw18_Tame.j2, if_neg (by omega), hq, if_neg (by omega), if_neg h1, if_neg h2, if_pos hl]⟩
theorem tame_l0 (l : List S39) (b : Bool) : ∀ (d i : Nat) (acc : List S39), 12 - i = d → i ≤ 12 → i ≤ l.length → acc.length = i → (∀ x ∈ acc, OkX x) → ∃ r : List S39, r.length ≤ 12 ∧ (∀ x ∈ r, OkX x) ∧ ∀ k, quoinlaw18_Tame.l0 (3 * d + 2 + k) l b acc (i : Int) = some r := by
  intro d
  induction d with
  | zero =>
    intro i acc hd hi hil ha hok
    refine ⟨acc, by omega, hok, fun k => ?_⟩
    rw [show 3 * 0 + 2 + k = (k + 1) + 1 from by omega, quoinlaw18_Tame.l0]
    by_cases h : (i : Int) < l.length
    · rw [if_pos h, decide_eq_false (by omega), quoinlaw18_Tame.j1, if_neg (by decide)]
    · rw [if_neg h, quoinlaw18_Tame.j1, if_neg (by decide)]
  | succ d ih =>
    intro i acc hd hi hil ha hok
    by_cases h : (i : Int) < l.length
    · obtain ⟨x, hx, hj⟩ := tame_j2 0 l b acc i (if b = true then 200 else 8796093022208) (by split <;> simp) (rd_T39 l i).f0 (rd_T39 l i).f1 (rd_T39 l i).f2 (rd_T39 l i).f3 (rd_T39 l i).f4 (rd_T39 l i).f5 (by omega)
      obtain ⟨r, hr, hro, hrk⟩ := ih (i + 1) (acc ++ [x]) (by omega) (by omega) (by omega) (by simp; omega) (fun y hy => by
        rcases List.mem_append.1 hy with h | h
        · exact hok y h
        · rw [List.mem_singleton.1 h]; exact hx)
      refine ⟨r, hr, hro, fun k => ?_⟩
      rw [show 3 * (d + 1) + 2 + k = ((3 * d + 2 + k) + 1 + 1) + 1 from by omega, quoinlaw18_Tame.l0, if_pos h, decide_eq_true (by omega), quoinlaw18_Tame.j1, if_pos rfl, if_pos (by omega), if_pos h]
      have hj' := hj (3 * d + 2 + k)
      rw [w64 (by omega) (by omega), show ((i : Int) + 1) = ((i + 1 : Nat) : Int) from by omega, hrk] at hj'
      cases b
      · rw [if_neg (by decide)]; exact hj'
      · rw [if_pos rfl]; exact hj'
    · refine ⟨acc, by omega, hok, fun k => ?_⟩
      rw [show 3 * (d + 1) + 2 + k = ((3 * d + 2 + k) + 1 + 1) + 1 from by omega, quoinlaw18_Tame.l0, if_neg h, quoinlaw18_Tame.j1, if_neg (by decide)]
/-- Tame: some items, at most twelve, each of which may be. -/
theorem tame_some (l : List S39) (b : Bool) : ∃ r : List S39, r.length ≤ 12 ∧ (∀ x ∈ r, OkX x) ∧ ∀ k, quoinlaw18_Tame.f (38 + k) l b = some r :=
  tame_l0 l b 12 0 [] (by omega) (by omega) (by omega) rfl (fun x hx => by cases hx)
theorem rHyp_eq (x : S39) : quoinref9_Hyp.f x.f0 x.f1 x.f2 x.f3 x.f4 x.f5 = quoinref9_Clamp.f x.f0 x.f1 x.f2 := by
  unfold quoinref9_Hyp.f
  cases quoinref9_Clamp.f x.f0 x.f1 x.f2 <;> rfl
/-- The document's Hyp is the program's, where the most is -1 or not below 0. -/
theorem rHyp_hyp {x : S39} (h : OkX x) : quoinref9_Hyp.f x.f0 x.f1 x.f2 x.f3 x.f4 x.f5 = some (hyp x) := by
  obtain ⟨a0, a1, a2, a3, a4, a5, a6, a7, a8, a9, a10, a11⟩ := h
  rw [rHyp_eq]
  unfold quoinref9_Clamp.f hyp clampI mx mn
  by_cases e : x.f2 = -1
  · rw [if_neg (by omega), if_pos e]; congr 1; omega
  · rw [if_pos (by omega), if_neg e]; congr 1; omega
end Go.Proofs.Ytlcghlcpngafgaa.PFree
