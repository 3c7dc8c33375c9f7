/- What coll.Order tells, in plain words: the places by orders, then places; and the document's own way to the same places. -/
import Derived.Test.YtlcghlcpngafgaaOrdA
namespace Go.Proofs.Ytlcghlcpngafgaa
open Go.Shelf Go.RowKit Go.Lib Go.Sort Mrg Go.Proofs.YtlcghlcpngafgaaW.PrintWords
set_option linter.unusedVariables false

/-- The order of place x. -/
def ky (l : List Int) (x : Nat) : Int := l.getD x 0
/-- What stands at i. -/
def pl (l : List Int) (i : Nat) : Nat := if 0 < l.length then (atA (sortedF l (l.length - 1)) i).val else 0
theorem ordI_length (l : List Int) : (ordI l).length = l.length := by
  unfold ordI
  by_cases h : 0 < l.length
  · rw [if_pos h, List.length_map, Array.length_toList, sortedF_size]; omega
  · rw [if_neg h]; simp; omega
theorem ordI_get (l : List Int) {i : Nat} (hi : i < l.length) : (ordI l).getD i 0 = (pl l i : Int) := by
  have h : 0 < l.length := by omega
  unfold ordI pl
  rw [if_pos h, if_pos h]
  have hs := sortedF_size l (l.length - 1)
  have hz : i < (sortedF l (l.length - 1)).size := by omega
  unfold atA
  rw [getElem!_pos _ i hz]
  simp [List.getD, hz]
theorem pl_spec (l : List Int) (h : 0 < l.length) : (∀ i, i < l.length → pl l i < l.length) ∧ Srt (ky l) (fun x => x) (pl l) 0 l.length ∧ ∀ j, j < l.length → ∃ i, i < l.length ∧ pl l i = j := by
  obtain ⟨m, hm1⟩ : ∃ m, m = l.length - 1 := ⟨_, rfl⟩
  have hm : l.length = m + 1 := by omega
  have e : pl l = fun i => (atA (sortedF l m) i).val := by subst hm1; funext i; unfold pl; rw [if_pos h]
  obtain ⟨g1, g2⟩ := sorted_spec l m
  have hk : ∀ x : Fin (m + 1), kO l x = ky l x.val := fun x => by simp [kO, ky, rd]
  rw [e, hm]
  refine ⟨fun i hi => (atA (sortedF l m) i).isLt, fun i j q1 q2 q3 => ?_, fun j hj => ?_⟩
  · have := g1 i j q1 q2 q3
    unfold ltS at this ⊢
    rw [hk, hk] at this
    exact this
  · obtain ⟨i, _, i2, e2⟩ := g2.2.2 j (Nat.zero_le _) hj
    rw [atA_ids hj] at e2
    exact ⟨i, i2, by show (atA (sortedF l m) i).val = j; rw [← e2]⟩
/-- A row of all places that is sorted is coll.Order's. -/
theorem pl_only (l : List Int) (e : Nat → Nat) (h0 : 0 < l.length) (h1 : Srt (ky l) (fun x => x) e 0 l.length) (h2 : ∀ i, i < l.length → e i < l.length) (h3 : ∀ j, j < l.length → ∃ i, i < l.length ∧ e i = j) : ∀ i, i < l.length → e i = pl l i := by
  obtain ⟨p1, p2, p3⟩ := pl_spec l h0
  exact srt_unique h1 p2 (fun i hi => by obtain ⟨j, j1, e1⟩ := p3 (e i) (h2 i hi); exact ⟨j, j1, e1.symm⟩) (fun i hi => by obtain ⟨j, j1, e1⟩ := h3 (pl l i) (p1 i hi); exact ⟨j, j1, e1.symm⟩)
/-- Told in that order they stay. -/
theorem again_id (l : List Int) (a : List Int) (ha : a.length = l.length) (h : ∀ i, i < l.length → a.getD i 0 = ky l (pl l i)) : ∀ i, i < l.length → pl a i = i := by
  intro i hi
  have h0 : 0 < l.length := by omega
  obtain ⟨p1, p2, p3⟩ := pl_spec l h0
  refine (pl_only a (fun i => i) (by omega) (fun x y q1 q2 q3 => ?_) (fun x hx => hx) (fun j hj => ⟨j, hj, rfl⟩) i (by omega)).symm
  have := p2 x y q1 q2 (by omega)
  have e1 := h x (by omega)
  have e2 := h y (by omega)
  unfold ltS ky at *
  show a.getD x 0 < a.getD y 0 ∨ (a.getD x 0 = a.getD y 0 ∧ x < y)
  omega
/-! ### the document's way -/
/-- x put ahead of place k. -/
def putAt (k x : Nat) (o : List Nat) : List Nat := o.take k ++ x :: o.drop k
theorem putAt_length {k x : Nat} {o : List Nat} (hk : k ≤ o.length) : (putAt k x o).length = o.length + 1 := by simp [putAt]; omega
theorem putAt_lo {k x : Nat} {o : List Nat} (hk : k ≤ o.length) {i : Nat} (h : i < k) : (putAt k x o).getD i 0 = o.getD i 0 := by
  unfold putAt
  rw [List.getD_eq_getElem?_getD, List.getElem?_append_left (by rw [List.length_take]; omega), List.getElem?_take_of_lt h, ← List.getD_eq_getElem?_getD]
theorem putAt_mid {k x : Nat} {o : List Nat} (hk : k ≤ o.length) : (putAt k x o).getD k 0 = x := by
  unfold putAt
  rw [List.getD_eq_getElem?_getD, List.getElem?_append_right (by rw [List.length_take]; omega)]
  simp [List.length_take, Nat.min_eq_left hk]
theorem putAt_hi {k x : Nat} {o : List Nat} (hk : k ≤ o.length) {i : Nat} (h : k ≤ i) : (putAt k x o).getD (i + 1) 0 = o.getD i 0 := by
  unfold putAt
  rw [List.getD_eq_getElem?_getD, List.getElem?_append_right (by rw [List.length_take]; omega), List.length_take, Nat.min_eq_left hk]
  have : i + 1 - k = (i - k) + 1 := by omega
  rw [this, List.getElem?_cons_succ, List.getElem?_drop, List.getD_eq_getElem?_getD]
  congr 2; omega
/-- Where place i goes: from k downwards. -/
def scn (l : List Int) (o : List Nat) (i : Nat) : Nat → Nat
  | 0 => 0
  | k + 1 => if ky l i < ky l (o.getD k 0) then scn l o i k else k + 1
theorem scn_spec (l : List Int) (o : List Nat) (i : Nat) : ∀ k, scn l o i k ≤ k ∧ (∀ x, scn l o i k ≤ x → x < k → ky l i < ky l (o.getD x 0)) ∧ (0 < scn l o i k → ky l (o.getD (scn l o i k - 1) 0) ≤ ky l i) := by
  intro k
  induction k with
  | zero => exact ⟨Nat.le_refl _, fun x h1 h2 => by omega, fun h => by simp [scn] at h⟩
  | succ k ih =>
    rw [scn]
    by_cases c : ky l i < ky l (o.getD k 0)
    · rw [if_pos c]
      refine ⟨by omega, fun x h1 h2 => ?_, ih.2.2⟩
      by_cases e : x = k
      · rw [e]; exact c
      · exact ih.2.1 x h1 (by omega)
    · rw [if_neg c]
      refine ⟨Nat.le_refl _, fun x h1 h2 => by omega, fun _ => ?_⟩
      rw [Nat.add_sub_cancel]; omega
/-- The first n places, as the document orders them. -/
def refO (l : List Int) : Nat → List Nat
  | 0 => []
  | n + 1 => putAt (scn l (refO l n) n (refO l n).length) n (refO l n)
theorem refO_length (l : List Int) : ∀ n, (refO l n).length = n := by
  intro n
  induction n with
  | zero => rfl
  | succ n ih => rw [refO, putAt_length (scn_spec l _ n _).1, ih]
theorem refO_spec (l : List Int) : ∀ n, (∀ i, i < n → (refO l n).getD i 0 < n) ∧ Srt (ky l) (fun x => x) (fun i => (refO l n).getD i 0) 0 n ∧ ∀ j, j < n → ∃ i, i < n ∧ (refO l n).getD i 0 = j := by
  intro n
  induction n with
  | zero => exact ⟨fun i h => by omega, fun i j h1 h2 h3 => by omega, fun j h => by omega⟩
  | succ n ih =>
    obtain ⟨i1, i2, i3⟩ := ih
    have hl := refO_length l n
    obtain ⟨s1, s2, s3⟩ := scn_spec l (refO l n) n (refO l n).length
    rw [refO]
    generalize scn l (refO l n) n (refO l n).length = k at *
    generalize refO l n = o at *
    have lo : ∀ x, x < k → (putAt k n o).getD x 0 = o.getD x 0 := fun x hx => putAt_lo s1 hx
    have mid : (putAt k n o).getD k 0 = n := putAt_mid s1
    have hi : ∀ x, k ≤ x → (putAt k n o).getD (x + 1) 0 = o.getD x 0 := fun x hx => putAt_hi s1 hx
    have kl : ∀ x, x < k → ky l (o.getD x 0) ≤ ky l n := fun x hx => by
      have h := s3 (by omega)
      have h2 : ky l (o.getD x 0) ≤ ky l (o.getD (k - 1) 0) := i2.key_le (i := x) (j := k - 1) (Nat.zero_le _) (by omega) (by omega)
      omega
    refine ⟨fun i h => ?_, fun i j h1 h2 h3 => ?_, fun j h => ?_⟩
    · by_cases c : i < k
      · rw [lo i c]; have := i1 i (by omega); omega
      · by_cases c2 : i = k
        · rw [c2, mid]; omega
        · obtain ⟨x, rfl⟩ : ∃ x, i = x + 1 := ⟨i - 1, by omega⟩
          rw [hi x (by omega)]; have := i1 x (by omega); omega
    · show ltS (ky l) (fun x => x) ((putAt k n o).getD i 0) ((putAt k n o).getD j 0)
      by_cases c : i < k
      · rw [lo i c]
        by_cases d : j < k
        · rw [lo j d]; exact i2 i j (Nat.zero_le _) h2 (by omega)
        · by_cases d2 : j = k
          · rw [d2, mid]
            have := kl i c
            have := i1 i (by omega)
            show ky l (o.getD i 0) < ky l n ∨ (ky l (o.getD i 0) = ky l n ∧ o.getD i 0 < n)
            omega
          · obtain ⟨y, rfl⟩ : ∃ y, j = y + 1 := ⟨j - 1, by omega⟩
            rw [hi y (by omega)]; exact i2 i y (Nat.zero_le _) (by omega) (by omega)
      · obtain ⟨y, rfl⟩ : ∃ y, j = y + 1 := ⟨j - 1, by omega⟩
        rw [hi y (by omega)]
        by_cases c2 : i = k
        · rw [c2, mid]; exact .inl (s2 y (by omega) (by omega))
        · obtain ⟨x, rfl⟩ : ∃ x, i = x + 1 := ⟨i - 1, by omega⟩
          rw [hi x (by omega)]; exact i2 x y (Nat.zero_le _) (by omega) (by omega)
    · by_cases c : j = n
      · exact ⟨k, by omega, by rw [mid, c]⟩
      · obtain ⟨i, h1, h2⟩ := i3 j (by omega)
        by_cases c2 : i < k
        · exact ⟨i, by omega, by rw [lo i c2, h2]⟩
        · exact ⟨i + 1, by omega, by rw [hi i (by omega), h2]⟩
theorem refO_pl (l : List Int) : ∀ i, i < l.length → (refO l l.length).getD i 0 = pl l i := by
  intro i hi
  obtain ⟨h1, h2, h3⟩ := refO_spec l l.length
  exact pl_only l (fun i => (refO l l.length).getD i 0) (by omega) h2 h1 h3 i hi
theorem refO_ord (l : List Int) : (refO l l.length).map (fun x : Nat => (x : Int)) = ordI l := by
  refine List.ext_getElem (by rw [List.length_map, refO_length, ordI_length]) (fun i h1 h2 => ?_)
  rw [ordI_length] at h2
  have a := refO_pl l i h2
  have b := ordI_get l h2
  rw [List.getD_eq_getElem?_getD, List.getElem?_eq_getElem (by rw [refO_length]; exact h2)] at a
  rw [List.getD_eq_getElem?_getD, List.getElem?_eq_getElem (by rw [ordI_length]; exact h2)] at b
  simp only [Option.getD_some] at a b
  rw [List.getElem_map, a, b]
end Go.Proofs.Ytlcghlcpngafgaa
