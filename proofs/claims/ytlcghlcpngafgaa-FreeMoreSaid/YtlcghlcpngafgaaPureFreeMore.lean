/- FreeMore: in more room no item is smaller but by a unit, and none is below 0: any items of any base up to 4095 that all may grow and shrink alike, without bounds; any room and more room up to 32767. -/
import Derived.Test.YtlcghlcpngafgaaPFreeMorex1
import Derived.Test.YtlcghlcpngafgaaFPl
import Derived.Test.YtlcghlcpngafgaaFAwk
namespace Go.Proofs.Ytlcghlcpngafgaa.Pure
open Go.RowKit Go.Proofs.Ytlcghlcpngafgaa.PFreeMore Go.Proofs.YtlcghlcpngafgaaW.PrintWords Go.Proofs.YtlcghlcpngafgaaW.PrintLast
open PFree
set_option linter.unusedVariables false

def mkM (x : Int) : S39 := ⟨x % 4096, 0, -1, 1, 1, 0⟩
theorem mkM_ok (x : Int) : OkX (mkM x) := by
  have h0 := Int.emod_nonneg x (b := 4096) (by decide)
  have h1 := Int.emod_lt_of_pos x (b := 4096) (by decide)
  unfold OkX mkM; simp only; omega
def itsM (l : List Int) (n : Nat) : List S39 := lst n (fun j => mkM (l.getD j 0))
theorem itsM_length (l : List Int) (n : Nat) : (itsM l n).length = n := lst_length _ _
theorem itsM_itm (l : List Int) {n i : Nat} (h : i < n) : itm (itsM l n) i = mkM (l.getD i 0) := lst_getD _ _ h
theorem itsM_ok (l : List Int) (n : Nat) : ∀ x ∈ itsM l n, OkX x := by
  intro x hx
  simp only [itsM, lst, List.mem_map, List.mem_range] at hx
  obtain ⟨j, _, rfl⟩ := hx
  exact mkM_ok _
theorem itsM_nb (l : List Int) (n : Nat) : NB (itsM l n) := by
  intro x hx
  simp only [itsM, lst, List.mem_map, List.mem_range] at hx
  obtain ⟨j, _, rfl⟩ := hx
  exact ⟨rfl, rfl⟩

theorem more_l0 (l : List Int) (a1 a2 : Int) (m : Nat) (hm : m = min l.length 8) : ∀ (d i : Nat) (k : Nat), m - i = d → i ≤ m → quoinlaw18_FreeMore.l0 (d + 1 + k) l a1 a2 (itsM l i) (i : Int) = quoinlaw18_FreeMore.j1 k a1 a2 (itsM l m) := by
  intro d
  induction d with
  | zero =>
    intro i k hd hi
    obtain rfl : i = m := by omega
    rw [Nat.zero_add, Nat.add_comm, quoinlaw18_FreeMore.l0]
    by_cases h : (i : Int) < l.length
    · rw [if_pos h, if_neg (by omega)]
    · rw [if_neg h]
  | succ d ih =>
    intro i k hd hi
    rw [show d + 1 + 1 + k = (d + 1 + k) + 1 from by omega, quoinlaw18_FreeMore.l0, if_pos (by omega), if_pos (by omega), if_pos (by omega), if_pos (by rw [itsM_length]; omega), U.rd_nat, w64 (by omega) (by omega), show ((i : Int) + 1) = ((i + 1 : Nat) : Int) from by omega]
    have e : itsM l i ++ [(⟨Go.bits .and .i64 (l.getD i 0) 4095, 0, (-1), 1, 1, 0⟩ : S39)] = itsM l (i + 1) := by
      have := U.and_mask (l.getD i 0) 12 (by decide)
      simp only [show (2 : Int) ^ 12 = 4096 from rfl, show (4096 : Int) - 1 = 4095 from rfl] at this
      rw [this]
      exact (lst_succ i (fun j => mkM (l.getD j 0))).symm
    rw [e]
    exact ih (i + 1) k (by omega) (by omega)
theorem more_l1 (x7 : List S39) (r1 r2 : List Int) (n : Nat) (hn : n ≤ 8) (h0 : x7.length = n) (h1 : r1.length = n) (h2 : r2.length = n) (hb : ∀ i, i < n → 0 ≤ r1.getD i 0 ∧ r1.getD i 0 ≤ 1000000000000 ∧ r1.getD i 0 - 1 ≤ r2.getD i 0) (k : Nat) : ∀ (d i : Nat), n - i = d → i ≤ n → quoinlaw18_FreeMore.l1 (d + 1 + k) x7 r1 r2 (i : Int) = some true := by
  intro d
  induction d with
  | zero =>
    intro i hd hi
    rw [Nat.zero_add, Nat.add_comm, quoinlaw18_FreeMore.l1, if_neg (by omega), awake_eq]
    rfl
  | succ d ih =>
    intro i hd hi
    obtain ⟨b0, b1, b2⟩ := hb i (by omega)
    rw [show d + 1 + 1 + k = (d + 1 + k) + 1 from by omega, quoinlaw18_FreeMore.l1, if_pos (by omega), if_pos (by omega), if_pos (by omega), if_pos (by omega), U.rd_nat, U.rd_nat, w64 (x := r1.getD i 0 - 1) (by omega) (by omega), if_neg (by omega), if_neg (by omega), w64 (by omega) (by omega), show ((i : Int) + 1) = ((i + 1 : Nat) : Int) from by omega]
    exact ih (i + 1) (by omega) (by omega)

theorem sumB_M (l : List Int) (n : Nat) : ∀ i : Nat, i ≤ n → 0 ≤ sumB (itsM l n) i ∧ sumB (itsM l n) i ≤ (i : Int) * 4095 := by
  intro i
  induction i with
  | zero => intro _; simp [sumB]
  | succ i ih =>
    intro hi
    have := ih (by omega)
    have h0 := Int.emod_nonneg (l.getD i 0) (b := 4096) (by decide)
    have h1 := Int.emod_lt_of_pos (l.getD i 0) (b := 4096) (by decide)
    simp only [sumB, itsM_itm l (show i < n by omega), mkM]
    omega
/-- Shrinking, the weights are the bases. -/
theorem total_wsM (l : List Int) (n : Nat) : ∀ i, i ≤ n → U.total ((wsN (itsM l n) false).take i) = sumB (itsM l n) i := by
  intro i
  induction i with
  | zero => intro _; simp [U.total, sumB]
  | succ i ih =>
    intro hi
    have hlt : i < (wsN (itsM l n) false).length := by rw [wsN_length, itsM_length]; omega
    rw [U.total_take_succ _ i hlt, ih (by omega), wsN_get (itsM_ok l n) (itsM_nb l n) false i (by rw [itsM_length]; omega)]
    simp only [sumB, wgt, itsM_itm l (show i < n by omega), mkM]
    simp
theorem total_wsM' (l : List Int) (n : Nat) : U.total (wsN (itsM l n) false) = sumB (itsM l n) n := by
  have := total_wsM l n n (Nat.le_refl _)
  rwa [List.take_of_length_le (by rw [wsN_length, itsM_length]; exact Nat.le_refl _)] at this
theorem shrink_fits (l : List Int) (n : Nat) (inner : Int) (hi0 : 0 ≤ inner) (hs : ¬ sumB (itsM l n) n < inner) (i : Nat) (hi : i < n) : 0 ≤ (itm (itsM l n) i).f0 + prN (itsM l n) inner i := by
  have hlen := itsM_length l n
  have hgr : grw (itsM l n) inner = false := by rw [grw_nb (itsM_ok l n) (itsM_nb l n), hlen]; exact decide_eq_false hs
  have h0 := Int.emod_nonneg (l.getD i 0) (b := 4096) (by decide)
  have hf0 : (itm (itsM l n) i).f0 = l.getD i 0 % 4096 := by rw [itsM_itm l hi]; rfl
  have hs0 := sumB_M l n n (Nat.le_refl _)
  rw [prN_eq (itsM_ok l n) (itsM_nb l n) inner i (by rw [hlen]; exact hi), hgr, hlen]
  by_cases hW : U.total (wsN (itsM l n) false) = 0
  · rw [ahd_none hW, ahd_none hW, hf0]; omega
  · have hWp : 0 < U.total (wsN (itsM l n) false) := by rw [total_wsM'] at hW ⊢; omega
    have hn := part_near (inner - sumB (itsM l n) n) hWp (i := i) (by rw [wsN_length, hlen]; exact hi)
    rw [wsN_get (itsM_ok l n) (itsM_nb l n) false i (by rw [hlen]; exact hi)] at hn
    have hw : wgt false (itm (itsM l n) i) = (itm (itsM l n) i).f0 := by rw [itsM_itm l hi]; simp [wgt, mkM]
    rw [hw] at hn
    rw [total_wsM'] at hn hWp
    rw [total_wsM'] at hW
    have hle : -(itm (itsM l n) i).f0 ≤ (inner - sumB (itsM l n) n) * (itm (itsM l n) i).f0 / sumB (itsM l n) n := by
      apply (Int.le_ediv_iff_mul_le hWp).2
      have hf : 0 ≤ (itm (itsM l n) i).f0 := by rw [hf0]; exact h0
      have := Int.mul_nonneg hi0 hf
      rw [Int.sub_mul, Int.neg_mul, Int.mul_comm (itm (itsM l n) i).f0]
      omega
    have e : (0 : Int) ≤ (itm (itsM l n) i).f0 + (ahd (inner - sumB (itsM l n) n) (wsN (itsM l n) false) (i + 1) - ahd (inner - sumB (itsM l n) n) (wsN (itsM l n) false) i) := by omega
    exact e

theorem ones_total (l : List Int) (n : Nat) : ∀ i : Nat, i ≤ n → U.total ((wsN (itsM l n) true).take i) = (i : Int) := by
  intro i
  induction i with
  | zero => intro _; simp [U.total]
  | succ i ih =>
    intro hi
    have hlt : i < (wsN (itsM l n) true).length := by rw [wsN_length, itsM_length]; omega
    rw [U.total_take_succ _ i hlt, ih (by omega), wsN_get (itsM_ok l n) (itsM_nb l n) true i (by rw [itsM_length]; omega)]
    simp [wgt, itsM_itm l (show i < n by omega), mkM]
theorem ones_total' (l : List Int) (n : Nat) : U.total (wsN (itsM l n) true) = (n : Int) := by
  have := ones_total l n n (Nat.le_refl _)
  rwa [List.take_of_length_le (by rw [wsN_length, itsM_length]; exact Nat.le_refl _)] at this

theorem fits (l : List Int) (n : Nat) (inner : Int) (hi0 : 0 ≤ inner) (i : Nat) (hi : i < n) : 0 ≤ (itm (itsM l n) i).f0 + prN (itsM l n) inner i := by
  by_cases hs : sumB (itsM l n) n < inner
  · have h1 := nb_grow (itsM_ok l n) (itsM_nb l n) inner (by rw [itsM_length]; exact hs) i (by rw [itsM_length]; exact hi)
    have h2 := (okx_itm (itsM_ok l n) (show i < (itsM l n).length by rw [itsM_length]; exact hi)).1
    omega
  · exact shrink_fits l n inner hi0 hs i hi
/-- In more room a part is no less, but for a unit. -/
theorem parts_more (l : List Int) (n : Nat) (i1 i2 : Int) (h12 : i1 ≤ i2) (i : Nat) (hi : i < n) : prN (itsM l n) i1 i - 1 ≤ prN (itsM l n) i2 i := by
  have hok := itsM_ok l n
  have hnb := itsM_nb l n
  have hlen := itsM_length l n
  have hil : i < (itsM l n).length := by rw [hlen]; exact hi
  by_cases h1 : sumB (itsM l n) n < i1
  · -- both grow
    have g1 : grw (itsM l n) i1 = true := by rw [grw_nb hok hnb, hlen]; exact decide_eq_true h1
    have g2 : grw (itsM l n) i2 = true := by rw [grw_nb hok hnb, hlen]; exact decide_eq_true (by omega)
    rw [prN_eq hok hnb i1 i hil, prN_eq hok hnb i2 i hil, g1, g2, hlen]
    have hW : 0 < U.total (wsN (itsM l n) true) := by rw [ones_total']; omega
    have p1 := part_near (i1 - sumB (itsM l n) n) hW (i := i) (by rw [wsN_length]; exact hil)
    have p2 := part_near (i2 - sumB (itsM l n) n) hW (i := i) (by rw [wsN_length]; exact hil)
    have hw0 := wsN_pos hok true _ (List.getElem_mem (l := wsN (itsM l n) true) (n := i) (by rw [wsN_length]; exact hil))
    have := Int.ediv_le_ediv hW (Int.mul_le_mul_of_nonneg_right (show i1 - sumB (itsM l n) n ≤ i2 - sumB (itsM l n) n by omega) hw0)
    omega
  · by_cases h2 : sumB (itsM l n) n < i2
    · have a := nb_shrink hok hnb i1 (by rw [hlen]; exact h1) i hil
      have b := nb_grow hok hnb i2 (by rw [hlen]; exact h2) i hil
      omega
    · have g1 : grw (itsM l n) i1 = false := by rw [grw_nb hok hnb, hlen]; exact decide_eq_false h1
      have g2 : grw (itsM l n) i2 = false := by rw [grw_nb hok hnb, hlen]; exact decide_eq_false h2
      rw [prN_eq hok hnb i1 i hil, prN_eq hok hnb i2 i hil, g1, g2, hlen]
      by_cases hW : U.total (wsN (itsM l n) false) = 0
      · rw [ahd_none hW, ahd_none hW, ahd_none hW, ahd_none hW]; omega
      · have hWp : 0 < U.total (wsN (itsM l n) false) := by
          have := sumB_M l n n (Nat.le_refl _)
          rw [total_wsM'] at hW ⊢; omega
        have p1 := part_near (i1 - sumB (itsM l n) n) hWp (i := i) (by rw [wsN_length]; exact hil)
        have p2 := part_near (i2 - sumB (itsM l n) n) hWp (i := i) (by rw [wsN_length]; exact hil)
        have hw0 := wsN_pos hok false _ (List.getElem_mem (l := wsN (itsM l n) false) (n := i) (by rw [wsN_length]; exact hil))
        have := Int.ediv_le_ediv hWp (Int.mul_le_mul_of_nonneg_right (show i1 - sumB (itsM l n) n ≤ i2 - sumB (itsM l n) n by omega) hw0)
        omega
theorem okR_M (l : List Int) (n : Nat) (hn : n ≤ 8) (hn0 : 0 < n) (inner : Int) (h0 : 0 ≤ inner) (h1 : inner ≤ 1000000) : okR (itsM l n) inner = true := by
  simp only [okR, okL, Bool.and_eq_true, decide_eq_true_eq]
  rw [itsM_length]
  exact ⟨⟨⟨⟨itsM_ok l n, by omega⟩, by omega⟩, by omega⟩, hn0⟩
theorem prN_bd (l : List Int) (n : Nat) (hn : n ≤ 8) (inner : Int) (h0 : 0 ≤ inner) (h1 : inner ≤ 1000000) (i : Nat) (hi : i < n) : prN (itsM l n) inner i ≤ 1000000 := by
  rw [prN_eq (itsM_ok l n) (itsM_nb l n) inner i (by rw [itsM_length]; exact hi), itsM_length]
  have hs := sumB_M l n n (Nat.le_refl _)
  have a := ahd_bd (n := inner - sumB (itsM l n) n) (wsN_pos (itsM_ok l n) (grw (itsM l n) inner)) i
  have b := ahd_bd (n := inner - sumB (itsM l n) n) (wsN_pos (itsM_ok l n) (grw (itsM l n) inner)) (i + 1)
  omega

theorem FreeMore : quoinlaw18_FreeMore.Pure := by
  intro l a1 a2 _ _ hw w1 w2
  obtain ⟨n, hn⟩ : ∃ n, n = min l.length 8 := ⟨_, rfl⟩
  have hn8 : n ≤ 8 := by omega
  refine ⟨n + 1 + (n + 1 + 0 + 2), ?_⟩
  unfold quoinlaw18_FreeMore.f
  have e0 : ([] : List S39) = itsM l 0 := rfl
  rw [e0, show (0 : Int) = ((0 : Nat) : Int) from rfl, more_l0 l a1 a2 n hn n 0 _ (by omega) (by omega)]
  have m1 : Go.bits .and .i64 a1 32767 = a1 % 32768 := U.and_mask a1 15 (by decide)
  have m2 : Go.bits .and .i64 a2 32767 = a2 % 32768 := U.and_mask a2 15 (by decide)
  have b1 := Int.emod_nonneg a1 (b := 32768) (by decide)
  have b1' := Int.emod_lt_of_pos a1 (b := 32768) (by decide)
  have b2 := Int.emod_nonneg a2 (b := 32768) (by decide)
  have b2' := Int.emod_lt_of_pos a2 (b := 32768) (by decide)
  rw [quoinlaw18_FreeMore.j1, m1, m2, w64 (x := a1 % 32768 + a2 % 32768) (by omega) (by omega)]
  generalize a1 % 32768 = i1 at *
  generalize hg : i1 + a2 % 32768 = i2 at *
  rw [free_Resolve.eq, free_Resolve.eq]
  simp only [Option.bind_some]
  by_cases hz : n = 0
  · have q1 : okR (itsM l n) i1 = false := by simp [okR, itsM_length, hz]
    have q2 : okR (itsM l n) i2 = false := by simp [okR, itsM_length, hz]
    rw [q1, q2]
    simp only [Bool.false_eq_true, if_false]
    rw [if_pos (by rw [itsM_length, hz]; rfl), quoinlaw18_FreeMore.j2, itsM_length, hz]
    simp only [List.length_nil]
    rw [if_neg (by decide)]
    have := more_l1 (itsM l 0) [] [] 0 (by decide) (itsM_length _ _) rfl rfl (fun i hi => by omega) 0 0 0 (by omega) (by omega)
    exact this
  · rw [if_pos (okR_M l n hn8 (by omega) i1 (by omega) (by omega)), if_pos (okR_M l n hn8 (by omega) i2 (by omega) (by omega))]
    rw [if_pos (show ((rslv (itsM l n) i1).length : Int) = ((itsM l n).length : Int) from by rw [rslv_length]), quoinlaw18_FreeMore.j2, if_neg (show ¬ (((rslv (itsM l n) i2).length : Int) != ((itsM l n).length : Int)) = true from by rw [rslv_length]; simp)]
    refine more_l1 (itsM l n) (rslv (itsM l n) i1) (rslv (itsM l n) i2) n hn8 (itsM_length _ _) (by rw [rslv_length, itsM_length]) (by rw [rslv_length, itsM_length]) (fun i hi => ?_) 0 n 0 (by omega) (by omega)
    have hil : i < (itsM l n).length := by rw [itsM_length]; exact hi
    have f1 : ∀ j, j < (itsM l n).length → 0 ≤ (itm (itsM l n) j).f0 + prN (itsM l n) i1 j := fun j hj => fits l n i1 (by omega) j (by rwa [itsM_length] at hj)
    have f2 : ∀ j, j < (itsM l n).length → 0 ≤ (itm (itsM l n) j).f0 + prN (itsM l n) i2 j := fun j hj => fits l n i2 (by omega) j (by rwa [itsM_length] at hj)
    rw [nb_val (itsM_ok l n) (itsM_nb l n) i1 f1 i hil, nb_val (itsM_ok l n) (itsM_nb l n) i2 f2 i hil]
    have c1 := f1 i hil
    have c2 := prN_bd l n hn8 i1 (by omega) (by omega) i hi
    have c3 := parts_more l n i1 i2 (by omega) i hi
    have c4 := Int.emod_lt_of_pos (l.getD i 0) (b := 4096) (by decide)
    have c5 : (itm (itsM l n) i).f0 = l.getD i 0 % 4096 := by rw [itsM_itm l hi]; rfl
    refine ⟨c1, by omega, by omega⟩

end Go.Proofs.Ytlcghlcpngafgaa.Pure
