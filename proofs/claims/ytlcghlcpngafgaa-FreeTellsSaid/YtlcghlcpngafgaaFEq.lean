/- Plain arithmetic: items that are alike come to sizes that are alike, but for a unit. No Go in sight. -/
import Derived.Test.YtlcghlcpngafgaaFPl
namespace Go.Proofs.Ytlcghlcpngafgaa.PFree
open Go.RowKit Go.Proofs.YtlcghlcpngafgaaW.PrintWords Go.Proofs.YtlcghlcpngafgaaW.PrintLast Go.Proofs.YtlcghlcpngafgaaW.PrintMore
set_option linter.unusedVariables false

/-- n items x. -/
def alk (x : S39) (n : Nat) : List S39 := lst n (fun _ => x)
theorem alk_length (x : S39) (n : Nat) : (alk x n).length = n := lst_length _ _
theorem alk_itm (x : S39) {n i : Nat} (h : i < n) : itm (alk x n) i = x := lst_getD _ _ h
theorem alk_ok {x : S39} (hx : OkX x) (n : Nat) : ∀ y ∈ alk x n, OkX y := by
  intro y hy
  simp only [alk, lst, List.mem_map, List.mem_range] at hy
  obtain ⟨j, _, rfl⟩ := hy
  exact hx
theorem alk_sumH (x : S39) (n : Nat) : ∀ i : Nat, i ≤ n → sumH (alk x n) i = (i : Int) * (hyp x + x.f5) := by
  intro i
  induction i with
  | zero => intro _; simp [sumH]
  | succ i ih =>
    intro hi
    have e : ((i + 1 : Nat) : Int) * (hyp x + x.f5) = (i : Int) * (hyp x + x.f5) + (hyp x + x.f5) := by rw [Int.natCast_add, Int.add_mul]; simp
    rw [e]
    simp only [sumH, ih (by omega), alk_itm x (show i < n by omega)]
theorem alk_inAt (x : S39) (n : Nat) (inner φ : Int) (sz : Nat → Int) (fz : Nat → Bool) (hf : ∀ i, i < n → fz i = true → sz i = φ) : ∀ i : Nat, i ≤ n → inAt (alk x n) sz fz inner i = inner - (i : Int) * (x.f5 + φ) + (cnt fz i : Int) * (φ - x.f0) := by
  intro i
  induction i with
  | zero => intro _; simp [inAt, cnt]
  | succ i ih =>
    intro hi
    have e : ((i + 1 : Nat) : Int) * (x.f5 + φ) = (i : Int) * (x.f5 + φ) + (x.f5 + φ) := by rw [Int.natCast_add, Int.add_mul]; simp
    simp only [inAt, cnt, ih (by omega), alk_itm x (show i < n by omega)]
    rw [e]
    by_cases h : fz i = true
    · rw [if_pos h, if_pos h, hf i (by omega) h]; simp; omega
    · have e2 : ((cnt fz i + 1 : Nat) : Int) * (φ - x.f0) = (cnt fz i : Int) * (φ - x.f0) + (φ - x.f0) := by rw [Int.natCast_add, Int.add_mul]; simp
      rw [if_neg h, if_neg h, e2]; omega
theorem alk_total (x : S39) (n : Nat) (gr : Bool) (fz : Nat → Bool) : ∀ i : Nat, i ≤ n → U.total ((wts (alk x n) gr fz (alk x n).length).take i) = (cnt fz i : Int) * wgt gr x := by
  intro i
  induction i with
  | zero => intro _; simp [U.total, cnt]
  | succ i ih =>
    intro hi
    have hl : i < (alk x n).length := by rw [alk_length]; omega
    rw [U.total_take_succ _ i (by rw [wts_length]; exact hl), ih (by omega), wts_get _ gr fz i hl, alk_itm x (show i < n by omega)]
    simp only [cnt]
    by_cases h : fz i = true
    · rw [if_pos h, if_pos h]; simp
    · have e2 : ((cnt fz i + 1 : Nat) : Int) * wgt gr x = (cnt fz i : Int) * wgt gr x + wgt gr x := by rw [Int.natCast_add, Int.add_mul]; simp
      rw [if_neg h, if_neg h, e2]
theorem alk_total' (x : S39) (n : Nat) (gr : Bool) (fz : Nat → Bool) : U.total (wts (alk x n) gr fz (alk x n).length) = (cnt fz n : Int) * wgt gr x := by
  have := alk_total x n gr fz n (Nat.le_refl _)
  rwa [List.take_of_length_le (by rw [wts_length, alk_length]; exact Nat.le_refl _)] at this
/-- A part among alike ones: the floor of what each has, or one more. -/
theorem alk_part {x : S39} (hx : OkX x) (n : Nat) (gr : Bool) (sz : Nat → Int) (fz : Nat → Bool) (inner : Int) (hw : 0 < wgt gr x) {i : Nat} (hi : i < n) (hf : fz i = false) :
    toS gr (inAt (alk x n) sz fz inner n) / (cnt fz n : Int) ≤ prt (alk x n) gr sz fz inner i ∧ prt (alk x n) gr sz fz inner i ≤ toS gr (inAt (alk x n) sz fz inner n) / (cnt fz n : Int) + 1 := by
  have hl : i < (alk x n).length := by rw [alk_length]; exact hi
  have hc : 0 < cnt fz n := by
    have h1 : moreA fz n = true := (more_iff fz n).2 ⟨i, hi, hf⟩
    rcases Nat.eq_zero_or_pos (cnt fz n) with h | h
    · rw [cnt_zero n h] at h1; cases h1
    · exact h
  have hW : 0 < U.total (wts (alk x n) gr fz (alk x n).length) := by rw [alk_total']; exact Int.mul_pos (by omega) hw
  have hp := part_near (toS gr (inAt (alk x n) sz fz inner (alk x n).length)) hW (i := i) (by rw [wts_length]; exact hl)
  rw [← prt_eq _ gr sz fz inner i hl, wts_get _ gr fz i hl, alk_itm x hi] at hp
  simp only [hf, Bool.false_eq_true, if_false] at hp
  rw [alk_total', Int.mul_ediv_mul_of_pos_left _ _ hw, alk_length] at hp
  exact hp
theorem alk_part0 (x : S39) (n : Nat) (gr : Bool) (sz : Nat → Int) (fz : Nat → Bool) (inner : Int) (hw : wgt gr x = 0) (i : Nat) (hi : i < n) : prt (alk x n) gr sz fz inner i = 0 := by
  have hl : i < (alk x n).length := by rw [alk_length]; exact hi
  have hW : U.total (wts (alk x n) gr fz (alk x n).length) = 0 := by rw [alk_total', hw, Int.mul_zero]
  rw [prt_eq _ gr sz fz inner i hl, ahd_none hW, ahd_none hW]; rfl

theorem cl_at_mu {x : S39} {m : Int} (h : m ≤ max x.f1 0) : clampI x m = max x.f1 0 := by unfold clampI; split <;> omega
theorem cl_at_kap {x : S39} {m : Int} (h2 : x.f2 ≠ -1) (h : capX x ≤ m) : clampI x m = capX x := by unfold capX at *; unfold clampI; rw [if_neg h2]; omega

/-- Once all have been at one size that is too great, or too small, together, they stay. -/
theorem alk_stay {x : S39} (hx : OkX x) (n : Nat) (gr : Bool) (inner φ : Int) (hgr : gr = grw (alk x n) inner) (hw : 0 < wgt gr x) (hfx : fix0 gr x = false)
    (hD : (φ = max x.f1 0 ∧ inner - (n : Int) * (x.f5 + φ) < 0) ∨ (x.f2 ≠ -1 ∧ φ = capX x ∧ 0 < inner - (n : Int) * (x.f5 + φ))) :
    ∀ (m : Nat) (sz : Nat → Int) (fz : Nat → Bool), cnt fz n ≤ m → (∀ i, i < n → fz i = true → sz i = φ) → ∀ i, i < n → iter (alk x n) gr inner m sz fz i = φ := by
  have hlen := alk_length x n
  have hsH := alk_sumH x n n (Nat.le_refl _)
  intro m
  induction m with
  | zero =>
    intro sz fz hc hf i hi
    exact hf i hi (fz_all (cnt_zero n (by omega)) hi)
  | succ m ih =>
    intro sz fz hc hf i hi
    simp only [iter, hlen]
    cases hm : moreA fz n with
    | false => simp; exact hf i hi (fz_all hm hi)
    | true =>
      simp only [if_true]
      have hlt := nx_lt (alk x n) gr inner sz fz (by rw [hlen]; exact hm)
      rw [hlen] at hlt
      refine ih _ _ (by omega) (fun j hj hnf => ?_) i hi
      cases e : fz j with
      | true => rw [(nx_old e).1]; exact hf j hj e
      | false =>
        have hN := alk_inAt x n inner φ sz fz hf n (Nat.le_refl _)
        have hp := alk_part hx n gr sz fz inner hw hj e
        have hcn : 0 < (cnt fz n : Int) := by omega
        rw [(nx_of e).1, alk_itm x hj]
        have hT := (toS_bd gr (inAt (alk x n) sz fz inner n)).1
        have hfx2 := hfx
        unfold fix0 at hfx2
        have hgr2 := hgr
        unfold grw at hgr2
        rw [hlen, hsH] at hgr2
        rcases hD with ⟨rfl, hD⟩ | ⟨h2, rfl, hD⟩
        · refine cl_at_mu ?_
          rcases hT with hT | hT
          · -- the whole is shared
            have hq : toS gr (inAt (alk x n) sz fz inner n) / (cnt fz n : Int) < max x.f1 0 - x.f0 := by
              refine Int.ediv_lt_of_lt_mul hcn ?_
              rw [Int.mul_comm (max x.f1 0 - x.f0), hT, hN]; omega
            omega
          · rw [hT, Int.zero_ediv] at hp
            by_cases hpos : 0 < inAt (alk x n) sz fz inner n
            · have hk : 0 < (cnt fz n : Int) * (max x.f1 0 - x.f0) := by omega
              have : 0 < max x.f1 0 - x.f0 := by
                rcases Int.lt_or_le 0 (max x.f1 0 - x.f0) with h | h
                · exact h
                · have := Int.mul_nonneg (show (0 : Int) ≤ (cnt fz n : Int) by omega) (show 0 ≤ -(max x.f1 0 - x.f0) by omega)
                  rw [Int.mul_neg] at this; omega
              have hT2 : gr = false := by
                cases gr with
                | false => rfl
                | true => unfold toS at hT; simp [hpos] at hT; omega
              have hp0 : prt (alk x n) gr sz fz inner j ≤ 0 := by
                have hl2 : j < (alk x n).length := by rw [hlen]; exact hj
                rw [prt_eq _ gr sz fz inner j hl2, hlen, hT]
                simp [ahd]
              omega
            · have hp0 : prt (alk x n) gr sz fz inner j ≤ 0 := by
                have hl2 : j < (alk x n).length := by rw [hlen]; exact hj
                rw [prt_eq _ gr sz fz inner j hl2, hlen, hT]
                simp [ahd]
              cases gr with
              | true =>
                simp only [if_true, Bool.or_eq_false_iff, decide_eq_false_iff_not] at hfx2
                have h5 : (n : Int) * (hyp x + x.f5) < inner := by simpa using hgr2.symm
                have h6 : (n : Int) * (hyp x + x.f5) < (n : Int) * (x.f5 + max x.f1 0) := by omega
                have h7 := Int.lt_of_mul_lt_mul_left h6 (by omega)
                have h8 : hyp x = clampI x x.f0 := rfl
                omega
              | false =>
                unfold toS at hT
                simp only [Bool.false_bne, decide_eq_true_eq] at hT
                rw [if_neg (by omega)] at hT
                have hk : 0 ≤ (cnt fz n : Int) * (max x.f1 0 - x.f0) := by omega
                have : 0 ≤ max x.f1 0 - x.f0 := by
                  rcases Int.lt_or_le (max x.f1 0 - x.f0) 0 with h | h
                  · have := Int.mul_neg_of_pos_of_neg hcn h; omega
                  · exact h
                omega
        · refine cl_at_kap h2 ?_
          rcases hT with hT | hT
          · have hq : capX x - x.f0 ≤ toS gr (inAt (alk x n) sz fz inner n) / (cnt fz n : Int) := by
              refine (Int.le_ediv_iff_mul_le hcn).2 ?_
              rw [Int.mul_comm (capX x - x.f0), hT, hN]; omega
            omega
          · have hp0 : prt (alk x n) gr sz fz inner j = 0 := by
              have hl2 : j < (alk x n).length := by rw [hlen]; exact hj
              rw [prt_eq _ gr sz fz inner j hl2, hlen, hT]
              simp [ahd]
            rw [hp0]
            by_cases hpos : 0 < inAt (alk x n) sz fz inner n
            · cases gr with
              | true => unfold toS at hT; simp [hpos] at hT; omega
              | false =>
                have h5 : inner ≤ (n : Int) * (hyp x + x.f5) := by simpa using hgr2.symm
                have h6 : (n : Int) * (x.f5 + capX x) < (n : Int) * (hyp x + x.f5) := by omega
                have h7 := Int.lt_of_mul_lt_mul_left h6 (by omega)
                have h8 : hyp x = clampI x x.f0 := rfl
                rcases cl_cap x x.f0 with h | h
                · exact absurd h h2
                · omega
            · have hk : (cnt fz n : Int) * (capX x - x.f0) < 0 := by omega
              have : capX x - x.f0 < 0 := by
                rcases Int.lt_or_le (capX x - x.f0) 0 with h | h
                · exact h
                · have := Int.mul_nonneg (show (0 : Int) ≤ (cnt fz n : Int) by omega) h; omega
              omega
/-- Items that are alike differ by a unit at most. -/
theorem alk_near {x : S39} (hx : OkX x) (n : Nat) (hn0 : 0 < n) (inner : Int) (i j : Nat) (hi : i < n) (hj : j < n) : (rslv (alk x n) inner).getD i 0 - (rslv (alk x n) inner).getD j 0 ≤ 1 := by
  have hlen := alk_length x n
  rw [rslv_get _ inner (by rw [hlen]; exact hi), rslv_get _ inner (by rw [hlen]; exact hj), hlen]
  obtain ⟨gr, hgr⟩ : ∃ gr, gr = grw (alk x n) inner := ⟨_, rfl⟩
  rw [← hgr]
  obtain ⟨sz, hsz⟩ : ∃ sz : Nat → Int, sz = fun i => hyp (itm (alk x n) i) := ⟨_, rfl⟩
  obtain ⟨fz, hfz⟩ : ∃ fz : Nat → Bool, fz = fun i => fix0 gr (itm (alk x n) i) := ⟨_, rfl⟩
  rw [← hsz, ← hfz]
  have hs : ∀ i, i < n → sz i = hyp x := fun i hi => by rw [hsz]; simp only; rw [alk_itm x hi]
  have hf : ∀ i, i < n → fz i = fix0 gr x := fun i hi => by rw [hfz]; simp only; rw [alk_itm x hi]
  cases hfx : fix0 gr x with
  | true =>
    have hm : moreA fz (alk x n).length = false := by rw [hlen]; exact more_false (fun i hi => by rw [hf i hi, hfx])
    rw [iter_done hm, hs i hi, hs j hj]; omega
  | false =>
    have hff : ∀ i, i < n → fz i = false := fun i hi => by rw [hf i hi, hfx]
    have hm : moreA fz n = true := (more_iff fz n).2 ⟨i, hi, hff i hi⟩
    have hcn : cnt fz n = n := by
      have : ∀ k, k ≤ n → cnt fz k = k := by
        intro k
        induction k with
        | zero => intro _; rfl
        | succ k ih => intro hk; simp only [cnt, ih (by omega), hff k (by omega)]; simp
      exact this n (Nat.le_refl _)
    have hlt := nx_lt (alk x n) gr inner sz fz (by rw [hlen]; exact hm)
    rw [hlen] at hlt
    obtain ⟨m, rfl⟩ : ∃ m, n = m + 1 := ⟨n - 1, by omega⟩
    have e1 : ∀ i, iter (alk x (m + 1)) gr inner (m + 1) sz fz i = iter (alk x (m + 1)) gr inner m (nxS (alk x (m + 1)) gr inner sz fz) (nxF (alk x (m + 1)) gr inner sz fz) i := fun i => by simp only [iter, hlen, hm, if_true]
    rw [e1 i, e1 j]
    have hnx : ∀ i, i < m + 1 → nxS (alk x (m + 1)) gr inner sz fz i = clampI x (x.f0 + prt (alk x (m + 1)) gr sz fz inner i) ∧ wrg (alk x (m + 1)) (prt (alk x (m + 1)) gr sz fz inner) fz i = nxS (alk x (m + 1)) gr inner sz fz i - (x.f0 + prt (alk x (m + 1)) gr sz fz inner i) := by
      intro i hi
      have := nx_of (l := alk x (m + 1)) (gr := gr) (inner := inner) (sz := sz) (hff i hi)
      rwa [alk_itm x hi] at this
    have hall : (∀ i, i < m + 1 → nxF (alk x (m + 1)) gr inner sz fz i = true) → ∀ i, iter (alk x (m + 1)) gr inner m (nxS (alk x (m + 1)) gr inner sz fz) (nxF (alk x (m + 1)) gr inner sz fz) i = nxS (alk x (m + 1)) gr inner sz fz i := by
      intro h i
      rw [iter_done (by rw [hlen]; exact more_false h)]
    have hwb := (wgt_bd' (gr := gr) hx).1
    by_cases hw0 : wgt gr x = 0
    · -- no weight: all as they would be
      have hp0 : ∀ i, i < m + 1 → prt (alk x (m + 1)) gr sz fz inner i = 0 := alk_part0 x (m + 1) gr sz fz inner hw0
      have hsame : ∀ i, i < m + 1 → nxS (alk x (m + 1)) gr inner sz fz i = clampI x x.f0 := fun i hi => by rw [(hnx i hi).1, hp0 i hi, Int.add_zero]
      have hsm : ∀ k : Nat, k ≤ m + 1 → smA (alk x (m + 1)) (prt (alk x (m + 1)) gr sz fz inner) fz k = (k : Int) * (clampI x x.f0 - x.f0) := by
        intro k
        induction k with
        | zero => intro _; simp [smA]
        | succ k ih =>
          intro hk
          have e : ((k + 1 : Nat) : Int) * (clampI x x.f0 - x.f0) = (k : Int) * (clampI x x.f0 - x.f0) + (clampI x x.f0 - x.f0) := by rw [Int.natCast_add, Int.add_mul]; simp
          rw [e]
          simp only [smA, ih (by omega), (hnx k (by omega)).2, hsame k (by omega), hp0 k (by omega)]; omega
      have hA : smA (alk x (m + 1)) (prt (alk x (m + 1)) gr sz fz inner) fz (alk x (m + 1)).length = ((m + 1 : Nat) : Int) * (clampI x x.f0 - x.f0) := by rw [hlen]; exact hsm (m + 1) (Nat.le_refl _)
      have hfr : ∀ i, i < m + 1 → nxF (alk x (m + 1)) gr inner sz fz i = true := by
        intro i hi
        have hwi := (hnx i hi).2
        rw [hsame i hi, hp0 i hi] at hwi
        rcases Int.lt_trichotomy (clampI x x.f0 - x.f0) 0 with h | h | h
        · have h2 : smA (alk x (m + 1)) (prt (alk x (m + 1)) gr sz fz inner) fz (alk x (m + 1)).length < 0 := by
            rw [hA]; exact Int.mul_neg_of_pos_of_neg (by omega) h
          rw [nxF_neg h2 (hff i hi)]; exact decide_eq_true (by omega)
        · have h2 : smA (alk x (m + 1)) (prt (alk x (m + 1)) gr sz fz inner) fz (alk x (m + 1)).length = 0 := by rw [hA, h, Int.mul_zero]
          exact nxF_zero h2 i
        · have h2 : 0 < smA (alk x (m + 1)) (prt (alk x (m + 1)) gr sz fz inner) fz (alk x (m + 1)).length := by
            rw [hA]; exact Int.mul_pos (by omega) h
          rw [nxF_pos h2 (hff i hi)]; exact decide_eq_true (by omega)
      rw [hall hfr i, hall hfr j, hsame i hi, hsame j hj]; omega
    · have hw : 0 < wgt gr x := by omega
      have hpq : ∀ i, i < m + 1 → _ := fun i hi => alk_part hx (m + 1) gr sz fz inner hw hi (hff i hi)
      have hN := alk_inAt x (m + 1) inner 0 sz fz (fun i hi h => by rw [hff i hi] at h; cases h) (m + 1) (Nat.le_refl _)
      rw [hcn] at hN hpq
      have hrv := rv_turn (l := alk x (m + 1)) (gr := gr) (inner := inner) (sz := sz) (fz := fz) (alk x (m + 1)).length (Nat.le_refl _)
      have hW : U.total (wts (alk x (m + 1)) gr fz (alk x (m + 1)).length) ≠ 0 := by
        rw [alk_total', hcn]
        have := Int.mul_pos (show (0 : Int) < ((m + 1 : Nat) : Int) by omega) hw
        omega
      have hah := ahd_all (n := toS gr (inAt (alk x (m + 1)) sz fz inner (alk x (m + 1)).length)) hW
      rw [wts_length] at hah
      rw [hah] at hrv
      have hTN : toS gr (inAt (alk x (m + 1)) sz fz inner (alk x (m + 1)).length) = inAt (alk x (m + 1)) sz fz inner (alk x (m + 1)).length := by
        rw [hlen]
        have hgr2 := hgr
        unfold grw at hgr2
        rw [hlen, alk_sumH x (m + 1) (m + 1) (Nat.le_refl _)] at hgr2
        have e5 : ((m + 1 : Nat) : Int) * (hyp x + x.f5) = ((m + 1 : Nat) : Int) * (x.f5 + 0) + ((m + 1 : Nat) : Int) * hyp x := by rw [← Int.mul_add]; congr 1; omega
        have e6 : ((m + 1 : Nat) : Int) * (0 - x.f0) = -(((m + 1 : Nat) : Int) * x.f0) := by rw [Int.zero_sub, Int.mul_neg]
        have hfx2 := hfx
        unfold fix0 at hfx2
        unfold toS
        cases gr with
        | true =>
          simp only [if_true, Bool.or_eq_false_iff, decide_eq_false_iff_not] at hfx2
          have h5 : ((m + 1 : Nat) : Int) * (hyp x + x.f5) < inner := by simpa using hgr2.symm
          have h6 : ((m + 1 : Nat) : Int) * x.f0 ≤ ((m + 1 : Nat) : Int) * hyp x := Int.mul_le_mul_of_nonneg_left (by have : hyp x = clampI x x.f0 := rfl; omega) (by omega)
          have : inAt (alk x (m + 1)) sz fz inner (m + 1) > 0 := by rw [hN]; omega
          simp [this]
        | false =>
          simp only [Bool.false_eq_true, if_false, Bool.or_eq_false_iff, decide_eq_false_iff_not] at hfx2
          have h5 : inner ≤ ((m + 1 : Nat) : Int) * (hyp x + x.f5) := by simpa using hgr2.symm
          have h6 : ((m + 1 : Nat) : Int) * hyp x ≤ ((m + 1 : Nat) : Int) * x.f0 := Int.mul_le_mul_of_nonneg_left (by have : hyp x = clampI x x.f0 := rfl; omega) (by omega)
          have : ¬ inAt (alk x (m + 1)) sz fz inner (m + 1) > 0 := by rw [hN]; omega
          simp [this]
      rw [hTN] at hrv
      have hconst : ∀ φ : Int, (∀ i, i < m + 1 → nxS (alk x (m + 1)) gr inner sz fz i = φ) → rv (alk x (m + 1)) inner sz fz (nxS (alk x (m + 1)) gr inner sz fz) (alk x (m + 1)).length = inner - ((m + 1 : Nat) : Int) * (x.f5 + φ) := by
        intro φ hφ
        have : ∀ k : Nat, k ≤ m + 1 → rv (alk x (m + 1)) inner sz fz (nxS (alk x (m + 1)) gr inner sz fz) k = inner - (k : Int) * (x.f5 + φ) := by
          intro k
          induction k with
          | zero => intro _; simp [rv]
          | succ k ih =>
            intro hk
            have e : ((k + 1 : Nat) : Int) * (x.f5 + φ) = (k : Int) * (x.f5 + φ) + (x.f5 + φ) := by rw [Int.natCast_add, Int.add_mul]; simp
            simp only [rv, ih (by omega), alk_itm x (show k < m + 1 by omega), hff k (by omega), hφ k (by omega)]
            rw [e]; simp; omega
        rw [hlen]; exact this (m + 1) (Nat.le_refl _)
      by_cases h0 : smA (alk x (m + 1)) (prt (alk x (m + 1)) gr sz fz inner) fz (alk x (m + 1)).length = 0
      · have hfr : ∀ i, i < m + 1 → nxF (alk x (m + 1)) gr inner sz fz i = true := fun i _ => nxF_zero h0 i
        rw [hall hfr i, hall hfr j, (hnx i hi).1, (hnx j hj).1]
        have a := hpq i hi
        have b := hpq j hj
        unfold clampI
        split <;> omega
      · by_cases h1 : 0 < smA (alk x (m + 1)) (prt (alk x (m + 1)) gr sz fz inner) fz (alk x (m + 1)).length
        · obtain ⟨t, ht, htf, htw⟩ := sm_pos _ h1
          rw [hlen] at ht
          rw [(hnx t ht).2, (hnx t ht).1] at htw
          have hmu := cl_up (x := x) (m := x.f0 + prt (alk x (m + 1)) gr sz fz inner t) (by omega)
          have hpt := hpq t ht
          have hφ : ∀ i, i < m + 1 → nxS (alk x (m + 1)) gr inner sz fz i = max x.f1 0 := fun i hi => by
            rw [(hnx i hi).1]
            have := hpq i hi
            exact cl_at_mu (by omega)
          have hc := hconst _ hφ
          have hst := alk_stay hx (m + 1) gr inner (max x.f1 0) hgr hw hfx (.inl ⟨rfl, by rw [← hc, hrv]; omega⟩) m _ _ (show cnt (nxF (alk x (m + 1)) gr inner sz fz) (m + 1) ≤ m by omega) (fun i hi _ => hφ i hi)
          rw [hst i hi, hst j hj]; omega
        · have h2 : smA (alk x (m + 1)) (prt (alk x (m + 1)) gr sz fz inner) fz (alk x (m + 1)).length < 0 := by omega
          obtain ⟨t, ht, htf, htw⟩ := sm_neg _ h2
          rw [hlen] at ht
          rw [(hnx t ht).2, (hnx t ht).1] at htw
          have hkp := cl_down (x := x) hx.2.2.2.2.1 (m := x.f0 + prt (alk x (m + 1)) gr sz fz inner t) (by omega)
          have hpt := hpq t ht
          have hφ : ∀ i, i < m + 1 → nxS (alk x (m + 1)) gr inner sz fz i = capX x := fun i hi => by
            rw [(hnx i hi).1]
            have := hpq i hi
            exact cl_at_kap (by omega) (by omega)
          have hc := hconst _ hφ
          have hst := alk_stay hx (m + 1) gr inner (capX x) hgr hw hfx (.inr ⟨by omega, rfl, by rw [← hc, hrv]; omega⟩) m _ _ (show cnt (nxF (alk x (m + 1)) gr inner sz fz) (m + 1) ≤ m by omega) (fun i hi _ => hφ i hi)
          rw [hst i hi, hst j hj]; omega
end Go.Proofs.Ytlcghlcpngafgaa.PFree
