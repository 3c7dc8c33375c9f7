/- Sorting by insertion, in plain words: places that rise come to be sorted by key, then place. No Go in sight. -/
import Derived.Test.YtlcghlcpngafgaaMrg
import Derived.Sort.LotA
namespace Go.Proofs.Ytlcghlcpngafgaa.Mrg
open Go.Sort
set_option linter.unusedVariables false
section
variable {α : Type} [Inhabited α] {key : α → Int} {plc : α → Nat}
/-- A row by its places. -/
def atA (d : Array α) : Nat → α := fun i => d[i]!
theorem atA_swp (d : Array α) {i j : Nat} (hi : i < d.size) (hj : j < d.size) (k : Nat) : atA (swp d i j) k = if k = j then atA d i else if k = i then atA d j else atA d k := swp_get d hi hj k
theorem same_swp (d : Array α) {i j a b : Nat} (hi : i < d.size) (hj : j < d.size) (hai : a ≤ i) (hib : i < b) (haj : a ≤ j) (hjb : j < b) : Same (atA d) (atA (swp d i j)) a b := by
  refine ⟨fun k hk => ?_, fun k h1 h2 => ?_, fun k h1 h2 => ?_⟩
  · rw [atA_swp d hi hj, if_neg (by omega), if_neg (by omega)]
  · rw [atA_swp d hi hj]
    by_cases c : k = j
    · rw [if_pos c]; exact ⟨i, hai, hib, rfl⟩
    · rw [if_neg c]
      by_cases c2 : k = i
      · rw [if_pos c2]; exact ⟨j, haj, hjb, rfl⟩
      · rw [if_neg c2]; exact ⟨k, h1, h2, rfl⟩
  · by_cases c : k = j
    · by_cases c3 : i = j
      · exact ⟨k, h1, h2, by rw [atA_swp d hi hj, if_pos c, c3, c]⟩
      · exact ⟨i, hai, hib, by rw [atA_swp d hi hj, if_neg c3, if_pos rfl, c]⟩
    · by_cases c2 : k = i
      · exact ⟨j, haj, hjb, by rw [atA_swp d hi hj, if_pos rfl, c2]⟩
      · exact ⟨k, h1, h2, by rw [atA_swp d hi hj, if_neg c, if_neg c2]⟩
theorem ins_inner (lt : α → α → Bool) (hlt : ∀ x y, lt x y = decide (key x < key y)) (a i : Nat) : ∀ (j : Nat) (d : Array α), a ≤ j → j ≤ i → i < d.size →
    (∀ x y, a ≤ x → x < y → y ≤ i → x ≠ j → y ≠ j → ltS key plc (atA d x) (atA d y)) → (∀ y, j < y → y ≤ i → key (atA d j) < key (atA d y)) → (∀ x, a ≤ x → x < j → plc (atA d x) < plc (atA d j)) →
    (insInner lt a j d).size = d.size ∧ Srt key plc (atA (insInner lt a j d)) a (i + 1) ∧ Same (atA d) (atA (insInner lt a j d)) a (i + 1) := by
  intro j
  induction j with
  | zero =>
    intro d ha hj hi h1 h2 h3
    rw [insInner]
    refine ⟨rfl, fun x y q1 q2 q3 => ?_, Same.refl _ _ _⟩
    by_cases c : x = 0
    · rw [c]; exact .inl (h2 y (by omega) (by omega))
    · exact h1 x y q1 q2 (by omega) c (by omega)
  | succ j ih =>
    intro d ha hj hi h1 h2 h3
    rw [insInner]
    by_cases c : a < j + 1 ∧ key (atA d (j + 1)) < key (atA d j)
    · have c2 : lt d[j + 1]! d[j]! = true := by rw [hlt]; exact decide_eq_true c.2
      rw [if_pos (by simp [c.1, c2])]
      have hs : (swp d (j + 1) j).size = d.size := swp_size d _ _
      have g := atA_swp d (i := j + 1) (j := j) (by omega) (by omega)
      obtain ⟨r1, r2, r3⟩ := ih (swp d (j + 1) j) (by omega) (by omega) (by omega) (fun x y q1 q2 q3 q4 q5 => by
          rw [g, g, if_neg q4, if_neg q5]
          by_cases e1 : x = j + 1
          · rw [if_pos e1, if_neg (by omega)]; exact h1 j y (by omega) (by omega) q3 (by omega) (by omega)
          · rw [if_neg e1]
            by_cases e2 : y = j + 1
            · rw [if_pos e2]; exact h1 x j q1 (by omega) (by omega) e1 (by omega)
            · rw [if_neg e2]; exact h1 x y q1 q2 q3 e1 e2) (fun y q1 q2 => by
          rw [g, g, if_pos rfl, if_neg (by omega)]
          by_cases e : y = j + 1
          · rw [if_pos e]; exact c.2
          · rw [if_neg e]; exact h2 y (by omega) q2) (fun x q1 q2 => by
          rw [g, g, if_pos rfl, if_neg (by omega), if_neg (by omega)]; exact h3 x q1 (by omega))
      exact ⟨r1.trans hs, r2, (same_swp d (by omega) (by omega) (by omega) (by omega) (by omega) (by omega)).trans r3⟩
    · have c2 : (decide (j + 1 > a) && lt d[j + 1]! d[j]!) = false := by
        rw [hlt]
        by_cases c3 : a < j + 1
        · have : ¬ key (atA d (j + 1)) < key (atA d j) := fun h => c ⟨c3, h⟩
          have e : decide (key d[j + 1]! < key d[j]!) = false := decide_eq_false this
          rw [e, Bool.and_false]
        · rw [decide_eq_false (show ¬ j + 1 > a by omega), Bool.false_and]
      rw [if_neg (by rw [c2]; exact Bool.false_ne_true)]
      refine ⟨rfl, fun x y q1 q2 q3 => ?_, Same.refl _ _ _⟩
      by_cases e1 : x = j + 1
      · rw [e1]; exact .inl (h2 y (by omega) (by omega))
      · by_cases e2 : y = j + 1
        · rw [e2]
          have p := h3 x q1 (by omega)
          have k1 : ¬ key (atA d (j + 1)) < key (atA d j) := fun h => c ⟨by omega, h⟩
          have k2 : key (atA d x) ≤ key (atA d j) := by
            by_cases e3 : x = j
            · rw [e3]; exact Int.le_refl _
            · exact lt_key (h1 x j q1 (by omega) (by omega) e1 (by omega))
          unfold ltS; omega
        · exact h1 x y q1 q2 (by omega) e1 e2
theorem ins_outer (lt : α → α → Bool) (hlt : ∀ x y, lt x y = decide (key x < key y)) (a b : Nat) : ∀ (n i : Nat) (d : Array α), b - i ≤ n → a ≤ i → b ≤ d.size → Srt key plc (atA d) a i → Asc plc (atA d) i b → (∀ x y, a ≤ x → x < i → i ≤ y → y < b → plc (atA d x) < plc (atA d y)) →
    (insOuter lt a b i d).size = d.size ∧ Srt key plc (atA (insOuter lt a b i d)) a b ∧ Same (atA d) (atA (insOuter lt a b i d)) a b := by
  intro n
  induction n with
  | zero =>
    intro i d hn hai hb h1 h2 h3
    rw [insOuter, if_neg (by omega)]
    exact ⟨rfl, h1.sub (Nat.le_refl _) (by omega), Same.refl _ _ _⟩
  | succ n ih =>
    intro i d hn hai hb h1 h2 h3
    rw [insOuter]
    by_cases c : i < b
    · rw [if_pos c]
      obtain ⟨r1, r2, r3⟩ := ins_inner (key := key) (plc := plc) lt hlt a i i d hai (Nat.le_refl _) (by omega) (fun x y q1 q2 q3 q4 q5 => h1 x y q1 q2 (by omega)) (fun y q1 q2 => by omega) (fun x q1 q2 => h3 x i q1 q2 (Nat.le_refl _) c)
      generalize insInner lt a i d = d1 at *
      obtain ⟨s1, s2, s3⟩ := ih (i + 1) d1 (by omega) (by omega) (by omega) r2 (fun x y q1 q2 q3 => by
          rw [r3.1 x (by omega), r3.1 y (by omega)]; exact h2 x y (by omega) q2 q3) (fun x y q1 q2 q3 q4 => by
          rw [r3.1 y (by omega)]
          obtain ⟨x', p1, p2, e⟩ := r3.2.1 x q1 q2
          rw [e]
          by_cases e2 : x' = i
          · rw [e2]; exact h2 i y (Nat.le_refl _) (by omega) q4
          · exact h3 x' y p1 (by omega) (by omega) q4)
      exact ⟨s1.trans r1, s2, (r3.more (Nat.le_refl _) (by omega)).trans s3⟩
    · rw [if_neg c]
      exact ⟨rfl, h1.sub (Nat.le_refl _) (by omega), Same.refl _ _ _⟩
theorem ins_sort (lt : α → α → Bool) (hlt : ∀ x y, lt x y = decide (key x < key y)) (a b : Nat) (d : Array α) (hab : a ≤ b) (hb : b ≤ d.size) (h : Asc plc (atA d) a b) :
    (insertionSort lt d a b).size = d.size ∧ Srt key plc (atA (insertionSort lt d a b)) a b ∧ Same (atA d) (atA (insertionSort lt d a b)) a b := by
  unfold insertionSort
  refine ins_outer lt hlt a b b (a + 1) d (by omega) (by omega) hb (fun i j q1 q2 q3 => by omega) (fun i j q1 q2 q3 => h i j (by omega) q2 q3) (fun x y q1 q2 q3 q4 => h x y q1 (by omega) q4)
end
end Go.Proofs.Ytlcghlcpngafgaa.Mrg
