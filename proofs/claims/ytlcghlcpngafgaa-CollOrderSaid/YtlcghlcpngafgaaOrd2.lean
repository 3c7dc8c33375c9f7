/- coll.Order, of one to nineteen orders: the places, sorted stably by their orders. Memory that was there is as it was. -/
import Derived.Test.YtlcghlcpngafgaaOrd1
namespace Go.Proofs.Ytlcghlcpngafgaa
open Go.Shelf Go.RowKit Go.Lib Go.Sort Go.Proofs.YtlcghlcpngafgaaW.PrintWords Go.Proofs.YtlcghlcpngafgaaW.PrintLast Go.Proofs.YtlcghlcpngafgaaW.PrintMore
set_option linter.unusedVariables false

/-- The places of a row of m + 1. -/
def idsF (m : Nat) : Array (Fin (m + 1)) := Array.ofFn id
theorem idsF_size (m : Nat) : (idsF m).size = m + 1 := by simp [idsF]
/-- The numbers below n. -/
def idsI (n : Nat) : List Int := (List.range n).map fun i : Nat => (i : Int)
theorem idsI_length (n : Nat) : (idsI n).length = n := by simp [idsI]
theorem idsI_succ (n : Nat) : idsI (n + 1) = idsI n ++ [(n : Int)] := by simp [idsI, List.range_succ]
/-- The places, sorted. -/
def sortedF (l : List Int) (m : Nat) : Array (Fin (m + 1)) := Sort.insertionSort (ltOf (cfO l)) (idsF m) 0 (m + 1)
def coll_Order.f (k : Nat) (l : List Int) : Option (List Int) := if 0 < l.length ∧ l.length < 20 then some ((sortedF l (l.length - 1)).toList.map fun x => (x.val : Int)) else none
theorem coll_Order.mono : ∀ a0 k, LeO (coll_Order.f k a0) (coll_Order.f (k + 1) a0) := fun _ _ => LeO.refl _

theorem insInner_size {α : Type} [Inhabited α] (lt : α → α → Bool) (a : Nat) : ∀ (j : Nat) (d : Array α), (insInner lt a j d).size = d.size := by
  intro j
  induction j with
  | zero => intro d; rfl
  | succ j ih => intro d; unfold insInner; split
                 · rw [ih]; simp [swp]
                 · rfl
theorem insOuter_size {α : Type} [Inhabited α] (lt : α → α → Bool) (a b : Nat) : ∀ (k i : Nat) (d : Array α), b - i ≤ k → (insOuter lt a b i d).size = d.size := by
  intro k
  induction k with
  | zero => intro i d h; unfold insOuter; rw [if_neg (by omega)]
  | succ k ih =>
    intro i d h
    unfold insOuter
    split
    · rw [ih _ _ (by omega), insInner_size]
    · rfl
theorem sortedF_size (l : List Int) (m : Nat) : (sortedF l m).size = m + 1 := by
  unfold sortedF Sort.insertionSort
  rw [insOuter_size _ _ _ _ _ _ (Nat.le_refl _), idsF_size]

theorem holds_ids {m : Nat} {w : World} {base g cap : Nat} {ok : Nat → Prop} (h : Kd.R (Kd.int .i64) 3 w base ok (.slice (some ⟨g, 0, none⟩) (m + 1) cap) (idsI (m + 1))) : Holds encF w g 0 (idsF m) := by
  intro j hj
  rw [idsF_size] at hj
  have h' : Kd.R (Kd.int .i64) 3 w base ok (.slice (some ⟨g, 0, none⟩) (idsI (m + 1)).length cap) (idsI (m + 1)) := by rw [idsI_length]; exact h
  have hc := Kd.R_cell (0 : Int) h' (j : Int) (by omega) (by rw [idsI_length]; omega)
  rw [Int.toNat_natCast] at hc
  rw [Nat.zero_add]
  refine ⟨hc.1.trans ?_, hc.2⟩
  congr 1
  have e1 : rdOf (0 : Int) (idsI (m + 1)) (j : Int) = (j : Int) := by
    simp [rdOf, idsI, hj]
  have e2 : (idsF m)[j]! = ⟨j, hj⟩ := by
    rw [getElem!_pos (idsF m) j (by rw [idsF_size]; exact hj)]
    simp [idsF]
  rw [e1, e2]
  rfl

theorem R_sorted {m : Nat} {w : World} {base g cap : Nat} {ok : Nat → Prop} {xs : List Int} (h : Kd.R (Kd.int .i64) 3 w base ok (.slice (some ⟨g, 0, none⟩) (m + 1) cap) xs) (hx : xs.length = m + 1) (X : Array (Fin (m + 1))) (hX : X.size = m + 1) (n : Nat) :
    Kd.R (Kd.int .i64) 3 ((putRow encF w g 0 X).drewN n) base ok (.slice (some ⟨g, 0, none⟩) (m + 1) cap) (X.toList.map fun x => (x.val : Int)) := by
  have hl : (X.toList.map fun x => (x.val : Int)).length = m + 1 := by simp [hX]
  refine Kd.R_of_own ?_ h.1
  have ho := Kd.own_of_R h
  rw [hx] at ho
  rcases ho.2 with ⟨h0, _⟩ | ⟨g', cap', cur, hv, hbase, hb, h1, h2, h3, h4⟩
  · cases h0
  cases hv
  refine ⟨by simp [encs, hX], .inr ⟨g, cap, putCells encF 0 X cur, by rw [hl], hbase, ?_, by rw [hl]; omega, h2, by simp [putCells, h3], ?_⟩⟩
  · show (putRow encF w g 0 X).heap[g]? = _
    simp [putRow, mapBlock, Array.getElem?_modify, hb, onCells]
  · rw [hl, Nat.mul_one]
    apply List.ext_getElem?
    intro j
    by_cases hj : j < m + 1
    · have hj1 : j < X.size := by omega
      have hj2 : j < cur.size := by omega
      rw [List.getElem?_take_of_lt hj, Array.getElem?_toList]
      simp [putCells, encs, hj1, hj2, encF]
    · rw [List.getElem?_take_eq_none (by omega), List.getElem?_eq_none (by simp [encs]; omega)]

theorem put_grown {m : Nat} {w : World} {g n : Nat} (X : Array (Fin (m + 1))) : w.grownBy ((putRow encF w g 0 X).drewN n) (some g) := by
  refine ⟨rfl, rfl, rfl, by simp [putRow, mapBlock, World.drewN], fun k hk hne => ?_⟩
  have : g ≠ k := fun e => hne (by rw [e])
  show (putRow encF w g 0 X).heap[k]? = _
  simp [putRow, mapBlock, Array.getElem?_modify, this]
end Go.Proofs.Ytlcghlcpngafgaa
