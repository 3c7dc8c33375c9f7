/- CollOrder holds: items stand by rising order, those of one order as they stood; each once; told in that order they stay. For any orders; no condition. -/
import Derived.Test.YtlcghlcpngafgaaUCollOrder
namespace Go.Proofs.Ytlcghlcpngafgaa.Pure
open Go.RowKit Go.Proofs.Ytlcghlcpngafgaa.PCollOrder Go.Proofs.YtlcghlcpngafgaaW.PrintWords Go.Proofs.YtlcghlcpngafgaaW.PrintLast Go.Proofs.YtlcghlcpngafgaaW.PrintMore
open Go.Proofs.Ytlcghlcpngafgaa.PCollOrder.U
set_option linter.unusedVariables false

theorem rd_ord (l : List Int) {i : Nat} (h : i < l.length) : rd (ordI l) (i : Int) = (pl l i : Int) := by rw [rd_nat]; exact ordI_get l h
theorem rd_ky (l : List Int) (x : Nat) : rd l (x : Int) = ky l x := rd_nat l x
/-- The orders of the first i that stand. -/
def agn (l : List Int) (i : Nat) : List Int := (List.range i).map fun j => ky l (pl l j)
theorem agn_length (l : List Int) (i : Nat) : (agn l i).length = i := by simp [agn]
theorem agn_succ (l : List Int) (i : Nat) : agn l (i + 1) = agn l i ++ [ky l (pl l i)] := by simp [agn, List.range_succ]
theorem agn_get (l : List Int) {n i : Nat} (h : i < n) : (agn l n).getD i 0 = ky l (pl l i) := by simp [agn, List.getD, h]
/-- Which are seen. -/
def Seen (l : List Int) (i : Nat) (s : List Bool) : Prop := s.length = l.length ∧ ∀ x, x < l.length → (s.getD x false = true ↔ ∃ j, j < i ∧ pl l j = x)
theorem seen_next {l : List Int} {i : Nat} {s : List Bool} (h : Seen l i s) (hi : pl l i < l.length) : Seen l (i + 1) (s.set (pl l i) true) := by
  obtain ⟨h1, h2⟩ := h
  refine ⟨by rw [List.length_set]; exact h1, fun x hx => ?_⟩
  rw [List.getD_eq_getElem?_getD, List.getElem?_set]
  by_cases c : pl l i = x
  · rw [if_pos c, if_pos (by omega)]
    exact ⟨fun _ => ⟨i, by omega, c⟩, fun _ => rfl⟩
  · rw [if_neg c, ← List.getD_eq_getElem?_getD, h2 x hx]
    constructor
    · rintro ⟨j, j1, j2⟩; exact ⟨j, by omega, j2⟩
    · rintro ⟨j, j1, j2⟩
      refine ⟨j, ?_, j2⟩
      have : j ≠ i := fun e => c (by rw [← e]; exact j2)
      omega
theorem O_l1 (P : List Int) (hP : P.length ≤ 200) (hid : ∀ i, i < P.length → rd P (i : Int) = (i : Int)) : ∀ (d i k : Nat), i + d = P.length → 30 ≤ k → quoinlaw17_CollOrder.l1 (k + 1 + d) P i = some true := by
  intro d
  induction d with
  | zero =>
    intro i k h hk
    rw [Nat.add_zero, quoinlaw17_CollOrder.l1, if_neg (by omega), awake_true k hk]; rfl
  | succ d ih =>
    intro i k h hk
    have e := ih (i + 1) k (by omega) hk
    rw [show k + 1 + (d + 1) = (k + 1 + d) + 1 from by omega]
    generalize k + 1 + d = kk at *
    rw [quoinlaw17_CollOrder.l1, if_pos (by omega), if_pos (by omega), if_pos (hid i (by omega)), w64s (by omega)]
    exact e
theorem O_l0 (l : List Int) (hl : l.length ≤ 100) : ∀ (d i k : Nat) (s : List Bool), i + d = l.length → 300 ≤ k → Seen l i s → quoinlaw17_CollOrder.l0 (k + 1 + 2 * d) l (ordI l) s (agn l i) i = some true := by
  intro d
  induction d with
  | zero =>
    intro i k s h hk hs
    obtain rfl : i = l.length := by omega
    have hn := ordI_length l
    have ha := agn_length l l.length
    have hA := ordI_length (agn l l.length)
    rw [Nat.mul_zero, Nat.add_zero, quoinlaw17_CollOrder.l0, if_neg (by omega)]
    have e : coll_OrderA.f k (agn l l.length) = some (ordI (agn l l.length)) := by unfold coll_OrderA.f; rw [if_pos (by omega)]
    rw [e]
    simp only [Option.bind_some]
    rw [if_pos (by omega)]
    obtain ⟨q, hq⟩ : ∃ q, k = q + 1 + (ordI (agn l l.length)).length := ⟨k - 1 - (ordI (agn l l.length)).length, by omega⟩
    have := O_l1 (ordI (agn l l.length)) (by omega) (fun i hi => by
      rw [rd_ord _ (by omega), again_id l (agn l l.length) ha (fun j hj => agn_get l hj) i (by omega)]) (ordI (agn l l.length)).length 0 q (by omega) (by omega)
    rw [hq]; exact this
  | succ d ih =>
    intro i k s h hk hs
    have hn := ordI_length l
    obtain ⟨p1, p2, p3⟩ := pl_spec l (by omega)
    have hpi := p1 i (by omega)
    have ha := agn_length l i
    have e := ih (i + 1) k (s.set (pl l i) true) (by omega) hk (seen_next hs hpi)
    have hfree : rdOf false s ((pl l i : Nat) : Int) = false := by
      have h2 := hs.2 (pl l i) hpi
      have : rdOf false s ((pl l i : Nat) : Int) = s.getD (pl l i) false := by simp [rdOf]
      rw [this]
      cases c : s.getD (pl l i) false with
      | false => rfl
      | true =>
        obtain ⟨j, j1, j2⟩ := h2.1 c
        have := p2 j i (Nat.zero_le _) j1 (by omega)
        unfold Mrg.ltS at this
        rw [j2] at this
        omega
    have hsl := hs.1
    rw [show k + 1 + 2 * (d + 1) = (k + 1 + 2 * d) + 1 + 1 from by omega]
    generalize k + 1 + 2 * d = kk at *
    rw [agn_succ] at e
    rw [quoinlaw17_CollOrder.l0, if_pos (by omega), if_pos (by omega), rd_ord l (by omega), if_neg (by omega), if_neg (by omega), if_pos (by omega), if_pos (by omega), hfree, quoinlaw17_CollOrder.j1, if_neg (by decide), if_pos (by omega), if_pos (by omega), rd_ord l (by omega), if_pos (by omega), if_pos (by omega)]
    simp only [Option.bind_some]
    rw [Int.toNat_natCast, w64s (by omega), rd_ky]
    have last : (if (agn l i).length < 17592186044416 then quoinlaw17_CollOrder.l0 kk l (ordI l) (s.set (pl l i) true) (agn l i ++ [ky l (pl l i)]) ((i + 1 : Nat) : Int) else none) = some true := by rw [if_pos (by omega)]; exact e
    by_cases c : 0 < i
    · obtain ⟨j, rfl⟩ : ∃ j, i = j + 1 := ⟨i - 1, by omega⟩
      have ew : wrap64 (((j + 1 : Nat) : Int) - 1) = (j : Int) := by rw [w64 (by omega) (by omega)]; omega
      have hpj := p1 j (by omega)
      have hst := p2 j (j + 1) (Nat.zero_le _) (by omega) (by omega)
      unfold Mrg.ltS at hst
      simp only at hst
      rw [if_pos (by omega), ew, if_pos (by omega), if_pos (by omega), rd_ord l (by omega), if_pos (by omega), if_pos (by omega), if_pos (by omega), rd_ky, if_neg (by omega)]
      by_cases c2 : ky l (pl l j) = ky l (pl l (j + 1))
      · rw [if_pos c2, if_neg (by omega)]; exact last
      · rw [if_neg c2]; exact last
    · rw [if_neg (by omega), if_pos (by omega)]; exact last
theorem CollOrder : quoinlaw17_CollOrder.Pure := by
  intro l0 _ _ _
  by_cases h : (l0.length : Int) > 100
  · exact ⟨30, by unfold quoinlaw17_CollOrder.f; rw [if_pos h, awake_true 30 (Nat.le_refl _)]; rfl⟩
  · have hn := ordI_length l0
    refine ⟨300 + 1 + 2 * l0.length, ?_⟩
    unfold quoinlaw17_CollOrder.f
    rw [if_neg h]
    have e : coll_OrderA.f (300 + 1 + 2 * l0.length) l0 = some (ordI l0) := by unfold coll_OrderA.f; rw [if_pos (by omega)]
    rw [e]
    simp only [Option.bind_some]
    rw [if_pos (by omega), if_pos (by omega), Int.toNat_natCast, if_pos (by omega)]
    exact O_l0 l0 (by omega) l0.length 0 300 _ (by omega) (by omega) ⟨by simp, fun x hx => by simp [List.getD, hx]⟩
end Go.Proofs.Ytlcghlcpngafgaa.Pure
