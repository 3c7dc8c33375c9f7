/- CollTells holds: any items stand in the order, and in the lines, that the document says. For any orders, any sizes, any room, in lines or not; no condition. -/
import Derived.Test.YtlcghlcpngafgaaUCollTells
namespace Go.Proofs.Ytlcghlcpngafgaa.Pure
open Go.RowKit Go.Proofs.Ytlcghlcpngafgaa.PCollTells Go.Proofs.YtlcghlcpngafgaaW.PrintWords Go.Proofs.YtlcghlcpngafgaaW.PrintLast Go.Proofs.YtlcghlcpngafgaaW.PrintMore
open Go.Proofs.Ytlcghlcpngafgaa.PCollTells.U
set_option linter.unusedVariables false

/-- Places as numbers. -/
def nums (o : List Nat) : List Int := o.map fun x : Nat => (x : Int)
theorem nums_length (o : List Nat) : (nums o).length = o.length := List.length_map _
theorem rd_nums (o : List Nat) {i : Nat} (h : i < o.length) : rd (nums o) (i : Int) = (o.getD i 0 : Int) := by
  rw [rd_nat, nums, List.getD_eq_getElem?_getD, List.getElem?_map, List.getElem?_eq_getElem h, List.getD_eq_getElem?_getD, List.getElem?_eq_getElem h]
  rfl
theorem nums_put (k i : Nat) (o : List Nat) : ([] ++ (nums o).take k ++ [(i : Int)]) ++ (nums o).drop k = nums (putAt k i o) := by
  simp [nums, putAt, List.map_take, List.map_drop]
theorem rd_ky (l : List Int) (x : Nat) : rd l (x : Int) = ky l x := rd_nat l x
theorem ref_l1 (l : List Int) (hl : l.length ≤ 1000) (o : List Nat) (i : Nat) (hi : i < l.length) (ho : o.length ≤ 1000) (hb : ∀ x, x < o.length → o.getD x 0 < l.length) (v : List Int) : ∀ (k : Nat), k ≤ o.length →
    (∃ K, ∀ q, K ≤ q → quoinref9_Order.l0 q l (nums (putAt (scn l o i k) i o)) ((i + 1 : Nat) : Int) = some v) → ∃ K, ∀ q, K ≤ q → quoinref9_Order.l1 q l (nums o) i k = some v := by
  intro k
  induction k with
  | zero =>
    intro hk ⟨K, hK⟩
    refine ⟨K + 1, fun q hq => ?_⟩
    obtain ⟨q, rfl⟩ : ∃ p, q = p + 1 := ⟨q - 1, by omega⟩
    have := hK q (by omega)
    rw [scn, ← nums_put] at this
    have hlen := nums_length o
    rw [quoinref9_Order.l1, if_neg (by omega)]
    simp only [Option.bind_some]
    rw [if_pos (by omega), if_pos (by omega), Int.toNat_natCast, if_pos (by simp <;> omega), if_pos (by simp <;> omega), if_pos (by simp <;> omega), w64s (by omega)]
    exact this
  | succ k ih =>
    intro hk ⟨K, hK⟩
    have hlen := nums_length o
    have hbk := hb k (by omega)
    have ew : wrap64 (((k + 1 : Nat) : Int) - 1) = (k : Int) := by rw [w64 (by omega) (by omega)]; omega
    have step : ∀ q, quoinref9_Order.l1 (q + 1) l (nums o) i ((k + 1 : Nat) : Int) = if ky l i < ky l (o.getD k 0) then quoinref9_Order.l1 q l (nums o) i k else quoinref9_Order.l0 q l (nums (putAt (k + 1) i o)) ((i + 1 : Nat) : Int) := by
      intro q
      rw [quoinref9_Order.l1, if_pos (by omega), ew, if_pos (by omega), if_pos (by omega), rd_nums o (by omega), if_pos (by omega), if_pos (by omega), if_pos (by omega), if_pos (by omega), rd_ky, rd_ky]
      by_cases c : ky l i < ky l (o.getD k 0)
      · rw [if_pos (show ky l (o.getD k 0) > ky l i from c), if_pos c]
      · rw [if_neg (show ¬ ky l (o.getD k 0) > ky l i from c), if_neg c]
        simp only [Option.bind_some]
        rw [if_pos (by omega), if_pos (by omega), Int.toNat_natCast, if_pos (by simp <;> omega), if_pos (by simp <;> omega), if_pos (by simp <;> omega), w64s (by omega), nums_put]
    rw [scn] at hK
    by_cases c : ky l i < ky l (o.getD k 0)
    · rw [if_pos c] at hK
      obtain ⟨K2, hK2⟩ := ih (by omega) ⟨K, hK⟩
      refine ⟨K2 + 1, fun q hq => ?_⟩
      obtain ⟨q, rfl⟩ : ∃ p, q = p + 1 := ⟨q - 1, by omega⟩
      rw [step, if_pos c]
      exact hK2 q (by omega)
    · rw [if_neg c] at hK
      refine ⟨K + 1, fun q hq => ?_⟩
      obtain ⟨q, rfl⟩ : ∃ p, q = p + 1 := ⟨q - 1, by omega⟩
      rw [step, if_neg c]
      exact hK q (by omega)
theorem ref_l0 (l : List Int) (hl : l.length ≤ 1000) : ∀ (d i : Nat), i + d = l.length → ∃ K, ∀ q, K ≤ q → quoinref9_Order.l0 q l (nums (refO l i)) i = some (nums (refO l l.length)) := by
  intro d
  induction d with
  | zero =>
    intro i h
    obtain rfl : i = l.length := by omega
    refine ⟨1, fun q hq => ?_⟩
    obtain ⟨q, rfl⟩ : ∃ p, q = p + 1 := ⟨q - 1, by omega⟩
    rw [quoinref9_Order.l0, if_neg (by omega)]
  | succ d ih =>
    intro i h
    have hn := refO_length l i
    obtain ⟨K, hK⟩ := ref_l1 l hl (refO l i) i (by omega) (by omega) (fun x hx => by have := (refO_spec l i).1 x (by omega); omega) (nums (refO l l.length)) (refO l i).length (Nat.le_refl _) (ih (i + 1) (by omega))
    refine ⟨K + 1, fun q hq => ?_⟩
    obtain ⟨q, rfl⟩ : ∃ p, q = p + 1 := ⟨q - 1, by omega⟩
    rw [quoinref9_Order.l0, if_pos (by omega), nums_length]
    exact hK q (by omega)
/-- The document's order is coll.Order's. -/
theorem ref_order (l : List Int) (hl : l.length ≤ 1000) : ∃ K, ∀ q, K ≤ q → quoinref9_Order.f q l = some (ordI l) := by
  obtain ⟨K, hK⟩ := ref_l0 l hl l.length 0 (by omega)
  exact ⟨K, fun q hq => by rw [← refO_ord l]; exact hK q hq⟩
theorem last_rd (D : List S25) (s : S25) : rd_T25 (D ++ [s]) (D.length : Int) = s := by simp [rd_T25]
theorem last_set (D : List S25) (s v : S25) : (D ++ [s]).set D.length v = D ++ [v] := by simp
theorem collect_l0 (l : List Int) (inner : Int) (wrap : Bool) (hl : l.length ≤ 100) (hb : ∀ x ∈ l, -1099511627776 ≤ x ∧ x ≤ 1099511627776) : ∀ (m i f : Nat) (sum : Int) (D : List S25) (k : Nat), l.length = i + m → f < i → -((i : Int) * 1099511627776) ≤ sum → sum ≤ (i : Int) * 1099511627776 → D.length ≤ i →
    quoinref9_Collect.l0 (k + 1 + m) l inner wrap (D ++ [toS (f, i)]) sum i = some (D ++ (goL l inner wrap m f i sum).map toS) := by
  intro m
  induction m with
  | zero =>
    intro i f sum D k h1 h2 h3 h4 h5
    rw [Nat.add_zero, quoinref9_Collect.l0, if_neg (by omega), goL, if_pos (by omega)]
    obtain rfl : i = l.length := by omega
    rfl
  | succ m ih =>
    intro i f sum D k h1 h2 h3 h4 h5
    have hb' := getD_bd (by decide) hb i
    have ih1 := fun f sum D => ih (i + 1) f sum D k (by omega)
    rw [show k + 1 + (m + 1) = (k + 1 + m) + 1 from by omega]
    generalize k + 1 + m = kk at *
    have hDl : ∀ (E : List S25) (s : S25), E.length ≤ 200 → wrap64 (((E ++ [s]).length : Int) - 1) = (E.length : Int) := fun E s hE => by
      have e : ((E ++ [s]).length : Int) = (E.length : Int) + 1 := by simp
      rw [e, w64 (by omega) (by omega)]; omega
    have hln : ∀ (E : List S25) (s : S25), ((E ++ [s]).length : Int) = (E.length : Int) + 1 := fun E s => by simp
    have same : ∀ E : List S25, E.length ≤ 200 → ∀ s : S25, s.f0 = (f : Int) → (E ++ [s]).set ((E.length : Int)).toNat (⟨(rd_T25 (E ++ [s]) (E.length : Int)).f0, ((i + 1 : Nat) : Int)⟩ : S25) = E ++ [toS (f, i + 1)] := fun E hE s hs => by
      rw [last_rd, Int.toNat_natCast, last_set, hs]; rfl
    rw [quoinref9_Collect.l0, if_pos (by omega), if_neg (by omega), rd_nat, w64s (by omega), w64 (x := sum + l.getD i 0) (by omega) (by omega), w64 (x := 0 + l.getD i 0) (by omega) (by omega), Int.zero_add]
    have keep : (if 0 ≤ wrap64 (((D ++ [toS (f, i)]).length : Int) - 1) then (if wrap64 (((D ++ [toS (f, i)]).length : Int) - 1) < ((D ++ [toS (f, i)]).length : Int) then (quoinref9_Collect.l0 kk l inner wrap ((D ++ [toS (f, i)]).set (wrap64 (((D ++ [toS (f, i)]).length : Int) - 1)).toNat (⟨(rd_T25 (D ++ [toS (f, i)]) (wrap64 (((D ++ [toS (f, i)]).length : Int) - 1))).f0, ((i + 1 : Nat) : Int)⟩ : S25)) (sum + l.getD i 0) ((i + 1 : Nat) : Int)) else none) else none) = some (D ++ (goL l inner wrap m f (i + 1) (sum + l.getD i 0)).map toS) := by
      rw [hDl D _ (by omega), if_pos (by omega), hln, if_pos (by omega), same D (by omega) _ rfl]
      exact ih1 f _ D (by omega) (by omega) (by omega) (by omega)
    by_cases hw : wrap = true
    · rw [if_pos hw, if_pos (by omega)]
      by_cases hs : inner < sum + l.getD i 0
      · have g : goL l inner wrap (m + 1) f i sum = (f, i) :: goL l inner wrap m i (i + 1) (l.getD i 0) := by rw [goL, if_pos ⟨hw, h2, hs⟩]
        rw [g, if_pos (by omega), if_pos (by simp <;> omega)]
        simp only [Option.bind_some]
        have e1 : (⟨(rd_T25 (D ++ [toS (f, i)] ++ [(⟨(i : Int), (i : Int)⟩ : S25)]) (((D ++ [toS (f, i)]).length : Nat) : Int)).f0, ((i + 1 : Nat) : Int)⟩ : S25) = toS (i, i + 1) := by rw [last_rd]; rfl
        rw [hDl (D ++ [toS (f, i)]) _ (by simp <;> omega), if_pos (by omega), if_pos (by simp), e1, Int.toNat_natCast, last_set]
        have := ih1 i (l.getD i 0) (D ++ [toS (f, i)]) (by omega) (by omega) (by omega) (by simp <;> omega)
        rw [this]; simp
      · have g : goL l inner wrap (m + 1) f i sum = goL l inner wrap m f (i + 1) (sum + l.getD i 0) := by rw [goL, if_neg (fun h => hs h.2.2)]
        rw [g, if_neg (by omega)]
        exact keep
    · have g : goL l inner wrap (m + 1) f i sum = goL l inner wrap m f (i + 1) (sum + l.getD i 0) := by rw [goL, if_neg (fun h => hw h.1)]
      rw [g, if_neg hw, if_pos (by omega)]
      exact keep
theorem collect_f (l : List Int) (inner : Int) (wrap : Bool) (hl : l.length ≤ 100) (hb : ∀ x ∈ l, -1099511627776 ≤ x ∧ x ≤ 1099511627776) (k : Nat) (hk : l.length + 2 ≤ k) : quoinref9_Collect.f k l inner wrap = some ((goL l inner wrap l.length 0 0 0).map toS) := by
  unfold quoinref9_Collect.f
  by_cases h : l.length = 0
  · obtain ⟨k, rfl⟩ : ∃ q, k = q + 1 := ⟨k - 1, by omega⟩
    rw [quoinref9_Collect.l0, if_neg (by omega), h, goL, if_neg (by omega)]; rfl
  · obtain ⟨m, hm⟩ : ∃ m, l.length = m + 1 := ⟨l.length - 1, by omega⟩
    obtain ⟨q, rfl⟩ : ∃ q, k = q + 1 + m + 1 := ⟨k - 2 - m, by omega⟩
    have hb' := getD_bd (by decide) hb 0
    have e := collect_l0 l inner wrap hl hb m 1 0 (l.getD 0 0) [] q (by omega) (by omega) (by omega) (by omega) (by simp)
    have z := rd_nat l 0
    rw [show ((0 : Nat) : Int) = 0 from rfl] at z
    rw [quoinref9_Collect.l0, if_pos (by omega), if_pos rfl, if_pos (by simp)]
    simp only [Option.bind_some]
    have e1 : wrap64 ((([] ++ [(⟨0, 0⟩ : S25)] : List S25).length : Int) - 1) = 0 := by rw [w64 (by simp) (by simp)]; simp
    rw [e1, if_pos (by omega), if_pos (by omega), if_pos (by simp), z, w64 (x := 0 + l.getD 0 0) (by omega) (by omega), Int.zero_add, Int.zero_add]
    have g : goL l inner wrap (m + 1) 0 0 0 = goL l inner wrap m 0 1 (l.getD 0 0) := by rw [goL, if_neg (fun h => absurd h.2.1 (by omega)), Int.zero_add]
    have ew : wrap64 1 = 1 := w64 (by omega) (by omega)
    rw [hm, g, ew]
    exact e
theorem T_l1 (X : List S25) (hX : X.length ≤ 1000) : ∀ (d i k : Nat), i + d = X.length → 30 ≤ k → quoinlaw17_CollTells.l1 (k + 1 + d) X X i = some true := by
  intro d
  induction d with
  | zero =>
    intro i k h hk
    rw [Nat.add_zero, quoinlaw17_CollTells.l1, if_neg (by omega), awake_true k hk]; rfl
  | succ d ih =>
    intro i k h hk
    have e := ih (i + 1) k (by omega) hk
    rw [show k + 1 + (d + 1) = (k + 1 + d) + 1 from by omega]
    generalize k + 1 + d = kk at *
    rw [quoinlaw17_CollTells.l1, if_pos (by omega), if_pos (by omega), if_pos (by omega), if_neg (by simp), w64s (by omega)]
    exact e
theorem T_l0 (l1 : List Int) (a2 : Int) (a3 : Bool) (P : List Int) (hP : P.length ≤ 1000) : ∀ (d i k : Nat), i + d = P.length → 300 ≤ k → quoinlaw17_CollTells.l0 (k + 1 + d) l1 a2 a3 P P i = some true := by
  intro d
  induction d with
  | zero =>
    intro i k h hk
    have ht := tam_length l1 1099511627776
    have hb := tam_bd l1 1099511627776 (by decide)
    rw [Nat.add_zero, quoinlaw17_CollTells.l0, if_neg (by omega), Tame_f l1 _ (by decide) k (by omega), Option.bind_some]
    generalize tam l1 1099511627776 = t at *
    have hb2 : ∀ x ∈ t, -1099511627776 ≤ x ∧ x ≤ 1099511627776 := fun x hx => by have := hb x hx; omega
    rw [lines_f t _ a3 (by omega) hb2 k (by omega), collect_f t _ a3 (by omega) hb2 k (by omega)]
    simp only [Option.bind_some]
    rw [if_pos trivial]
    have hg : ((goL t (Int.tmod a2 35184372088832) a3 t.length 0 0 0).map toS).length ≤ 61 := by
      rw [List.length_map]
      have : ∀ (m f i : Nat) (s : Int), (goL t (Int.tmod a2 35184372088832) a3 m f i s).length ≤ m + 1 := by
        intro m
        induction m with
        | zero => intro f i s; rw [goL]; split <;> simp
        | succ m ih =>
          intro f i s
          rw [goL]
          split
          · have := ih i (i + 1) (t.getD i 0); simp only [List.length_cons]; omega
          · have := ih f (i + 1) (s + t.getD i 0); omega
      have := this t.length 0 0 0
      omega
    generalize (goL t (Int.tmod a2 35184372088832) a3 t.length 0 0 0).map toS = X at *
    obtain ⟨q, hq⟩ : ∃ q, k = q + 1 + X.length := ⟨k - 1 - X.length, by omega⟩
    have := T_l1 X (by omega) X.length 0 q (by omega) (by omega)
    rw [hq]; exact this
  | succ d ih =>
    intro i k h hk
    have e := ih (i + 1) k (by omega) hk
    rw [show k + 1 + (d + 1) = (k + 1 + d) + 1 from by omega]
    generalize k + 1 + d = kk at *
    rw [quoinlaw17_CollTells.l0, if_pos (by omega), if_pos (by omega), if_pos (by omega), if_pos rfl, w64s (by omega)]
    exact e
theorem CollTells : quoinlaw17_CollTells.Pure := by
  intro l0 l1 a2 a3 _ _ _ _ _ _ _
  by_cases h : (l0.length : Int) > 200
  · exact ⟨30, by unfold quoinlaw17_CollTells.f; rw [if_pos h, awake_true 30 (Nat.le_refl _)]; rfl⟩
  · obtain ⟨K, hK⟩ := ref_order l0 (by omega)
    have hn := ordI_length l0
    obtain ⟨q, hq⟩ : ∃ q, q = K + 300 := ⟨_, rfl⟩
    refine ⟨q + 1 + l0.length, ?_⟩
    unfold quoinlaw17_CollTells.f
    rw [if_neg h, hK _ (by omega)]
    have e : coll_OrderA.f (q + 1 + l0.length) l0 = some (ordI l0) := by unfold coll_OrderA.f; rw [if_pos (by omega)]
    rw [e]
    simp only [Option.bind_some]
    rw [if_pos trivial]
    have := T_l0 l1 a2 a3 (ordI l0) (by omega) l0.length 0 q (by omega) (by omega)
    exact this
end Go.Proofs.Ytlcghlcpngafgaa.Pure
