/- Plain arithmetic: what all turns together come to: all room is shared, or each one that could is at its end. No Go in sight. -/
import Derived.Test.YtlcghlcpngafgaaFRm
namespace Go.Proofs.Ytlcghlcpngafgaa.PFree
open Go.RowKit Go.Proofs.YtlcghlcpngafgaaW.PrintWords Go.Proofs.YtlcghlcpngafgaaW.PrintLast Go.Proofs.YtlcghlcpngafgaaW.PrintMore
set_option linter.unusedVariables false

/-- The room less all Arounds, less what is frozen, less v of the others. -/
def rv (l : List S39) (inner : Int) (sz : Nat → Int) (fz : Nat → Bool) (v : Nat → Int) : Nat → Int
  | 0 => inner
  | i + 1 => rv l inner sz fz v i - (itm l i).f5 - (if fz i = true then sz i else v i)
/-- The room less all Arounds and sizes. -/
def rst (l : List S39) (inner : Int) (R : Nat → Int) : Nat → Int
  | 0 => inner
  | i + 1 => rst l inner R i - (itm l i).f5 - R i
theorem rv_inAt (l : List S39) (inner : Int) (sz : Nat → Int) (fz : Nat → Bool) : ∀ i, rv l inner sz fz (fun j => (itm l j).f0) i = inAt l sz fz inner i := by
  intro i
  induction i with
  | zero => rfl
  | succ i ih => simp only [rv, inAt, ih]
theorem rv_mono {l : List S39} {inner : Int} {sz : Nat → Int} {fz : Nat → Bool} {v v' : Nat → Int} : ∀ n, (∀ i, i < n → fz i = false → v i ≤ v' i) → rv l inner sz fz v' n ≤ rv l inner sz fz v n := by
  intro n
  induction n with
  | zero => intro _; exact Int.le_refl _
  | succ n ih =>
    intro h
    have h1 := ih (fun i hi => h i (by omega))
    have h2 := h n (by omega)
    simp only [rv]
    cases e : fz n with
    | true => simp; omega
    | false => have := h2 e; simp; omega
/-- Another state behind a turn: who is newly frozen has u. -/
theorem rv_le {l : List S39} {inner : Int} {sz sz' : Nat → Int} {fz fz' : Nat → Bool} {v v' : Nat → Int} : ∀ n, (∀ i, i < n → (if fz i = true then sz i else v i) ≤ (if fz' i = true then sz' i else v' i)) → rv l inner sz' fz' v' n ≤ rv l inner sz fz v n := by
  intro n
  induction n with
  | zero => intro _; exact Int.le_refl _
  | succ n ih =>
    intro h
    have h1 := ih (fun i hi => h i (by omega))
    have h2 := h n (by omega)
    simp only [rv]; omega
theorem rv_eq {l : List S39} {inner : Int} {sz sz' : Nat → Int} {fz fz' : Nat → Bool} {v v' : Nat → Int} (n : Nat) (h : ∀ i, i < n → (if fz i = true then sz i else v i) = (if fz' i = true then sz' i else v' i)) : rv l inner sz' fz' v' n = rv l inner sz fz v n :=
  Int.le_antisymm (rv_le n (fun i hi => by rw [h i hi]; exact Int.le_refl _)) (rv_le n (fun i hi => by rw [h i hi]; exact Int.le_refl _))
theorem rv_rst {l : List S39} {inner : Int} {sz : Nat → Int} {fz : Nat → Bool} {v : Nat → Int} : ∀ n, (∀ i, i < n → fz i = true) → rv l inner sz fz v n = rst l inner sz n := by
  intro n
  induction n with
  | zero => intro _; rfl
  | succ n ih => intro h; simp only [rv, rst, ih (fun i hi => h i (by omega)), if_pos (h n (by omega))]
theorem rst_congr {l : List S39} {inner : Int} {R R' : Nat → Int} : ∀ n, (∀ i, i < n → R i = R' i) → rst l inner R n = rst l inner R' n := by
  intro n
  induction n with
  | zero => intro _; rfl
  | succ n ih => intro h; simp only [rst, ih (fun i hi => h i (by omega)), h n (by omega)]

theorem wts_get (l : List S39) (gr : Bool) (fz : Nat → Bool) (i : Nat) (h : i < l.length) : (wts l gr fz l.length)[i]'(by rw [wts_length]; exact h) = if fz i = true then 0 else wgt gr (itm l i) := by
  simp [wts, lst]
theorem ahd_step0 {n : Int} {ws : List Int} {i : Nat} (h : i < ws.length) (h0 : ws[i] = 0) : ahd n ws (i + 1) = ahd n ws i := by
  unfold ahd
  rw [U.total_take_succ ws i h, h0, Int.add_zero]
theorem ahd_all {n : Int} {ws : List Int} (hW : U.total ws ≠ 0) : ahd n ws ws.length = n := by
  unfold ahd
  rw [List.take_length, Int.mul_ediv_cancel _ hW]
theorem ahd_none {n : Int} {ws : List Int} (hW : U.total ws = 0) (i : Nat) : ahd n ws i = 0 := by
  unfold ahd
  rw [hW, Int.ediv_zero]
/-- The room less what a turn gives: what was left, less the violation, less what was shared. -/
theorem rv_turn {l : List S39} {gr : Bool} {inner : Int} {sz : Nat → Int} {fz : Nat → Bool} : ∀ i, i ≤ l.length →
    rv l inner sz fz (nxS l gr inner sz fz) i = inAt l sz fz inner i - smA l (prt l gr sz fz inner) fz i - ahd (toS gr (inAt l sz fz inner l.length)) (wts l gr fz l.length) i := by
  intro i
  induction i with
  | zero => intro _; simp [rv, inAt, smA, ahd_zero]
  | succ i ih =>
    intro hi
    have hp := prt_eq l gr sz fz inner i (by omega)
    simp only [rv, inAt, smA, wrg, ih (by omega)]
    by_cases e : fz i = true
    · have e0 := ahd_step0 (n := toS gr (inAt l sz fz inner l.length)) (ws := wts l gr fz l.length) (i := i) (by rw [wts_length]; omega) (by rw [wts_get l gr fz i (by omega), if_pos e])
      rw [if_pos e, if_pos e, if_pos e, e0]; omega
    · rw [if_neg e, if_neg e, if_neg e]
      have e1 : nxS l gr inner sz fz i = clampI (itm l i) ((itm l i).f0 + prt l gr sz fz inner i) := by simp [nxS, newS, e]
      rw [e1]; omega
theorem total_pos {ws : List Int} (hws : ∀ x ∈ ws, 0 ≤ x) {i : Nat} (hi : i < ws.length) (h : 0 < ws[i]) : 0 < U.total ws := by
  have h1 := U.total_take_succ ws i hi
  have h2 := U.total_take_le hws i
  have h3 := U.total_take_le hws (i + 1)
  omega
theorem total_zero_all {ws : List Int} (hws : ∀ x ∈ ws, 0 ≤ x) (h : U.total ws = 0) {i : Nat} (hi : i < ws.length) : ws[i] = 0 := by
  have h1 := hws _ (List.getElem_mem hi)
  by_cases e : 0 < ws[i]
  · have := total_pos hws hi e; omega
  · omega

/-! ### a clamped number -/
/-- The greatest that an item may be, where there is a most. -/
def capX (x : S39) : Int := max (max x.f2 x.f1) 0
theorem cl_mono (x : S39) {m m' : Int} (h : m ≤ m') : clampI x m ≤ clampI x m' := by unfold clampI; split <;> omega
theorem cl_up {x : S39} {m : Int} (h : m < clampI x m) : clampI x m = max x.f1 0 := by unfold clampI at *; split at h <;> split <;> omega
theorem cl_down {x : S39} (h2 : -1 ≤ x.f2) {m : Int} (h : clampI x m < m) : 0 ≤ x.f2 ∧ clampI x m = capX x := by unfold clampI at *; unfold capX; split at h <;> split <;> omega
theorem cl_cap (x : S39) (m : Int) : x.f2 = -1 ∨ clampI x m ≤ capX x := by
  unfold clampI capX; by_cases h : x.f2 = -1
  · exact .inl h
  · right; rw [if_neg h]; omega
theorem cl_lo (x : S39) (m : Int) : max x.f1 0 ≤ clampI x m := by unfold clampI; split <;> omega
theorem cl_up_same {x : S39} {a m : Int} (ha : a ≤ m) (h : m < clampI x m) : clampI x m = clampI x a := by unfold clampI at *; split at h <;> split <;> omega
theorem cl_down_same {x : S39} {a m : Int} (ha : m ≤ a) (h : clampI x m < m) : clampI x m = clampI x a := by unfold clampI at *; split at h <;> split <;> omega

theorem nx_of {l : List S39} {gr : Bool} {inner : Int} {sz : Nat → Int} {fz : Nat → Bool} {i : Nat} (h : fz i = false) : nxS l gr inner sz fz i = clampI (itm l i) ((itm l i).f0 + prt l gr sz fz inner i) ∧ wrg l (prt l gr sz fz inner) fz i = nxS l gr inner sz fz i - ((itm l i).f0 + prt l gr sz fz inner i) := by
  have e : nxS l gr inner sz fz i = clampI (itm l i) ((itm l i).f0 + prt l gr sz fz inner i) := by simp [nxS, newS, h]
  exact ⟨e, by rw [e]; simp [wrg, h]⟩
theorem nx_old {l : List S39} {gr : Bool} {inner : Int} {sz : Nat → Int} {fz : Nat → Bool} {i : Nat} (h : fz i = true) : nxS l gr inner sz fz i = sz i ∧ nxF l gr inner sz fz i = true := by
  simp [nxS, newS, nxF, newF, h]
theorem nxF_pos {l : List S39} {gr : Bool} {inner : Int} {sz : Nat → Int} {fz : Nat → Bool} (hs : 0 < smA l (prt l gr sz fz inner) fz l.length) {i : Nat} (h : fz i = false) : nxF l gr inner sz fz i = decide (0 < wrg l (prt l gr sz fz inner) fz i) := by
  have h1 : ¬ smA l (prt l gr sz fz inner) fz l.length = 0 := by omega
  have h2 : ¬ smA l (prt l gr sz fz inner) fz l.length < 0 := by omega
  simp [nxF, newF, h, hs, h1, h2]
theorem nxF_neg {l : List S39} {gr : Bool} {inner : Int} {sz : Nat → Int} {fz : Nat → Bool} (hs : smA l (prt l gr sz fz inner) fz l.length < 0) {i : Nat} (h : fz i = false) : nxF l gr inner sz fz i = decide (wrg l (prt l gr sz fz inner) fz i < 0) := by
  have h1 : ¬ smA l (prt l gr sz fz inner) fz l.length = 0 := by omega
  have h2 : ¬ 0 < smA l (prt l gr sz fz inner) fz l.length := by omega
  simp [nxF, newF, h, hs, h1, h2]
theorem nxF_zero {l : List S39} {gr : Bool} {inner : Int} {sz : Nat → Int} {fz : Nat → Bool} (hs : smA l (prt l gr sz fz inner) fz l.length = 0) (i : Nat) : nxF l gr inner sz fz i = true := by
  simp [nxF, newF, hs]
theorem more_false {fz : Nat → Bool} {n : Nat} (h : ∀ i, i < n → fz i = true) : moreA fz n = false := by
  cases e : moreA fz n with
  | false => rfl
  | true =>
    obtain ⟨i, hi, hf⟩ := (more_iff fz n).1 e
    rw [h i hi] at hf; cases hf

/-! ### growing -/
structure GI (l : List S39) (inner : Int) (sz : Nat → Int) (fz : Nat → Bool) : Prop where
  unf : ∀ i, i < l.length → fz i = false → (itm l i).f3 ≠ 0 ∧ (itm l i).f0 ≤ clampI (itm l i) (itm l i).f0
  h : 0 ≤ rv l inner sz fz (fun i => clampI (itm l i) (itm l i).f0) l.length
  k : (∀ i, i < l.length → fz i = true → (itm l i).f3 ≠ 0 → 0 ≤ (itm l i).f2 ∧ max (itm l i).f2 (itm l i).f1 ≤ sz i) ∨
    ∃ low : Nat → Int, (∀ i, i < l.length → fz i = false → (itm l i).f2 = -1 ∨ low i ≤ capX (itm l i)) ∧ rv l inner sz fz low l.length < 0
/-- What growing comes to. -/
def GEnd (l : List S39) (inner : Int) (R : Nat → Int) : Prop := rst l inner R l.length = 0 ∨ (0 ≤ rst l inner R l.length ∧ ∀ i, i < l.length → (itm l i).f3 ≠ 0 → 0 ≤ (itm l i).f2 ∧ max (itm l i).f2 (itm l i).f1 ≤ R i)
theorem grow_end {l : List S39} {inner : Int} (hok : ∀ x ∈ l, OkX x) : ∀ (m : Nat) (sz : Nat → Int) (fz : Nat → Bool), cnt fz l.length ≤ m → GI l inner sz fz → GEnd l inner (iter l true inner m sz fz) := by
  intro m
  have done : ∀ (sz : Nat → Int) (fz : Nat → Bool), moreA fz l.length = false → GI l inner sz fz → GEnd l inner sz := by
    intro sz fz hm hG
    have hall : ∀ i, i < l.length → fz i = true := fun i hi => fz_all hm hi
    right
    have e := rv_rst (l := l) (inner := inner) (sz := sz) (v := fun i => clampI (itm l i) (itm l i).f0) l.length hall
    refine ⟨by rw [← e]; exact hG.h, fun i hi h3 => ?_⟩
    rcases hG.k with hk | ⟨low, _, hlow⟩
    · exact hk i hi (hall i hi) h3
    · rw [rv_rst l.length hall, ← e] at hlow
      have := hG.h
      omega
  induction m with
  | zero =>
    intro sz fz hc hG
    exact done sz fz (cnt_zero _ (by omega)) hG
  | succ m ih =>
    intro sz fz hc hG
    cases hm : moreA fz l.length with
    | false => simp only [iter, hm, Bool.false_eq_true, if_false]; exact done sz fz hm hG
    | true =>
      simp only [iter, hm, if_true]
      have hlt := nx_lt l true inner sz fz hm
      -- what is left
      have hN : 0 ≤ inAt l sz fz inner l.length := by
        rw [← rv_inAt]
        exact Int.le_trans hG.h (rv_mono l.length (fun i hi hf => (hG.unf i hi hf).2))
      have hT : toS true (inAt l sz fz inner l.length) = inAt l sz fz inner l.length := by unfold toS; by_cases h : inAt l sz fz inner l.length > 0 <;> simp [h]; omega
      have hp : ∀ i, i < l.length → 0 ≤ prt l true sz fz inner i := by
        intro i hi
        rw [prt_eq l true sz fz inner i hi, hT]
        have := (ahd_le (n := inAt l sz fz inner l.length) (fun x hx => (wts_bd hok true fz x hx).1) i (by rw [wts_length]; exact hi)).1 hN
        omega
      obtain ⟨j, hj, hjf⟩ := (more_iff fz l.length).1 hm
      have hW : U.total (wts l true fz l.length) ≠ 0 := by
        have h1 := (okx_itm hok hj).2.2.2.2.2.2.1
        have h2 := (hG.unf j hj hjf).1
        have := total_pos (ws := wts l true fz l.length) (fun x hx => (wts_bd hok true fz x hx).1) (i := j) (by rw [wts_length]; exact hj) (by rw [wts_get l true fz j hj]; simp [hjf, wgt]; omega)
        omega
      have hrv := rv_turn (l := l) (gr := true) (inner := inner) (sz := sz) (fz := fz) l.length (Nat.le_refl _)
      have hall := ahd_all (n := toS true (inAt l sz fz inner l.length)) hW
      rw [wts_length] at hall
      rw [hall, hT] at hrv
      by_cases h0 : smA l (prt l true sz fz inner) fz l.length = 0
      · -- all are frozen
        have hf : ∀ i, i < l.length → nxF l true inner sz fz i = true := fun i _ => nxF_zero h0 i
        have e2 : iter l true inner m (nxS l true inner sz fz) (nxF l true inner sz fz) = nxS l true inner sz fz := by
          cases m with
          | zero => rfl
          | succ m => simp [iter, more_false hf]
        rw [e2]
        left
        rw [← rv_rst (sz := nxS l true inner sz fz) (v := nxS l true inner sz fz) l.length hf]
        have e3 : rv l inner (nxS l true inner sz fz) (nxF l true inner sz fz) (nxS l true inner sz fz) l.length = rv l inner sz fz (nxS l true inner sz fz) l.length := by
          refine rv_eq l.length (fun i hi => ?_)
          rw [if_pos (hf i hi)]
          cases e : fz i with
          | true => rw [if_pos rfl, (nx_old e).1]
          | false => simp
        rw [e3, hrv]; omega
      · refine ih _ _ (by omega) ?_
        have hle : ∀ i, i < l.length → fz i = false → clampI (itm l i) (itm l i).f0 ≤ nxS l true inner sz fz i := fun i hi hf => by
          rw [(nx_of hf).1]; exact cl_mono _ (by have := hp i hi; omega)
        have hold : ∀ i, i < l.length → nxF l true inner sz fz i = false → fz i = false := fun i hi h => by
          cases e : fz i with
          | false => rfl
          | true => rw [(nx_old e).2] at h; cases h
        by_cases h1 : 0 < smA l (prt l true sz fz inner) fz l.length
        · -- those that were too small are frozen: they have what they would have had
          have hnew : ∀ i, i < l.length → fz i = false → nxF l true inner sz fz i = true → nxS l true inner sz fz i = clampI (itm l i) (itm l i).f0 := by
            intro i hi hf hn
            rw [nxF_pos h1 hf, decide_eq_true_eq, (nx_of hf).2] at hn
            rw [(nx_of hf).1] at hn ⊢
            exact cl_up_same (by have := hp i hi; omega) (by omega)
          refine ⟨fun i hi h => hG.unf i hi (hold i hi h), ?_, .inr ⟨nxS l true inner sz fz, fun i hi h => ?_, ?_⟩⟩
          · have e3 : rv l inner (nxS l true inner sz fz) (nxF l true inner sz fz) (fun i => clampI (itm l i) (itm l i).f0) l.length = rv l inner sz fz (fun i => clampI (itm l i) (itm l i).f0) l.length := by
              refine rv_eq l.length (fun i hi => ?_)
              cases e : fz i with
              | true => rw [if_pos rfl, if_pos (nx_old e).2, (nx_old e).1]
              | false =>
                cases e2 : nxF l true inner sz fz i with
                | true => simp [hnew i hi e e2]
                | false => simp
            rw [e3]; exact hG.h
          · rw [(nx_of (hold i hi h)).1]; exact cl_cap _ _
          · have e3 : rv l inner (nxS l true inner sz fz) (nxF l true inner sz fz) (nxS l true inner sz fz) l.length = rv l inner sz fz (nxS l true inner sz fz) l.length := by
              refine rv_eq l.length (fun i hi => ?_)
              cases e : fz i with
              | true => rw [if_pos rfl, if_pos (nx_old e).2, (nx_old e).1]
              | false => simp
            rw [e3, hrv]; omega
        · -- those that were too great are frozen: they are at their most
          have h2 : smA l (prt l true sz fz inner) fz l.length < 0 := by omega
          have hnew : ∀ i, i < l.length → fz i = false → nxF l true inner sz fz i = true → 0 ≤ (itm l i).f2 ∧ nxS l true inner sz fz i = capX (itm l i) := by
            intro i hi hf hn
            rw [nxF_neg h2 hf, decide_eq_true_eq, (nx_of hf).2] at hn
            rw [(nx_of hf).1] at hn ⊢
            exact cl_down (okx_itm hok hi).2.2.2.2.1 (by omega)
          refine ⟨fun i hi h => hG.unf i hi (hold i hi h), ?_, ?_⟩
          · have e3 : rv l inner sz fz (nxS l true inner sz fz) l.length ≤ rv l inner (nxS l true inner sz fz) (nxF l true inner sz fz) (fun i => clampI (itm l i) (itm l i).f0) l.length := by
              refine rv_le l.length (fun i hi => ?_)
              cases e : fz i with
              | true => rw [if_pos rfl, if_pos (nx_old e).2, (nx_old e).1]; exact Int.le_refl _
              | false =>
                have := hle i hi e
                cases e2 : nxF l true inner sz fz i with
                | true => simp
                | false => simpa using this
            omega
          · rcases hG.k with hk | ⟨low, hl1, hl2⟩
            · left
              intro i hi hf h3
              cases e : fz i with
              | true => rw [(nx_old e).1]; exact hk i hi e h3
              | false =>
                have := hnew i hi e hf
                refine ⟨this.1, ?_⟩
                rw [this.2]; unfold capX; omega
            · right
              refine ⟨low, fun i hi h => hl1 i hi (hold i hi h), ?_⟩
              have e3 : rv l inner (nxS l true inner sz fz) (nxF l true inner sz fz) low l.length ≤ rv l inner sz fz low l.length := by
                refine rv_le l.length (fun i hi => ?_)
                cases e : fz i with
                | true => rw [if_pos rfl, if_pos (nx_old e).2, (nx_old e).1]; exact Int.le_refl _
                | false =>
                  cases e2 : nxF l true inner sz fz i with
                  | true =>
                    have h5 := hnew i hi e e2
                    have h6 := hl1 i hi e
                    simp [h5.2]; omega
                  | false => simp
              omega

/-! ### shrinking -/
structure SI (l : List S39) (inner : Int) (sz : Nat → Int) (fz : Nat → Bool) : Prop where
  unf : ∀ i, i < l.length → fz i = false → (itm l i).f4 ≠ 0 ∧ clampI (itm l i) (itm l i).f0 ≤ (itm l i).f0
  h : rv l inner sz fz (fun i => clampI (itm l i) (itm l i).f0) l.length ≤ 0
  k : (∀ i, i < l.length → fz i = true → (itm l i).f4 ≠ 0 → clampI (itm l i) (itm l i).f0 ≤ (itm l i).f0 → sz i ≤ max (itm l i).f1 0) ∨
    ∃ high : Nat → Int, (∀ i, i < l.length → fz i = false → max (itm l i).f1 0 ≤ high i) ∧ 0 < rv l inner sz fz high l.length
/-- What shrinking comes to. -/
def SEnd (l : List S39) (inner : Int) (R : Nat → Int) : Prop := rst l inner R l.length = 0 ∨ (rst l inner R l.length ≤ 0 ∧ ∀ i, i < l.length → (itm l i).f4 ≠ 0 → 0 < (itm l i).f0 → clampI (itm l i) (itm l i).f0 ≤ (itm l i).f0 → R i ≤ max (itm l i).f1 0)
theorem shrink_end {l : List S39} {inner : Int} (hok : ∀ x ∈ l, OkX x) : ∀ (m : Nat) (sz : Nat → Int) (fz : Nat → Bool), cnt fz l.length ≤ m → SI l inner sz fz → SEnd l inner (iter l false inner m sz fz) := by
  intro m
  have done : ∀ (sz : Nat → Int) (fz : Nat → Bool), moreA fz l.length = false → SI l inner sz fz → SEnd l inner sz := by
    intro sz fz hm hG
    have hall : ∀ i, i < l.length → fz i = true := fun i hi => fz_all hm hi
    right
    have e := rv_rst (l := l) (inner := inner) (sz := sz) (v := fun i => clampI (itm l i) (itm l i).f0) l.length hall
    refine ⟨by rw [← e]; exact hG.h, fun i hi h4 _ hh => ?_⟩
    rcases hG.k with hk | ⟨high, _, hhigh⟩
    · exact hk i hi (hall i hi) h4 hh
    · rw [rv_rst l.length hall, ← e] at hhigh
      have := hG.h
      omega
  induction m with
  | zero =>
    intro sz fz hc hG
    exact done sz fz (cnt_zero _ (by omega)) hG
  | succ m ih =>
    intro sz fz hc hG
    cases hm : moreA fz l.length with
    | false => simp only [iter, hm, Bool.false_eq_true, if_false]; exact done sz fz hm hG
    | true =>
      simp only [iter, hm, if_true]
      have hlt := nx_lt l false inner sz fz hm
      have hN : inAt l sz fz inner l.length ≤ 0 := by
        rw [← rv_inAt]
        exact Int.le_trans (rv_mono l.length (fun i hi hf => (hG.unf i hi hf).2)) hG.h
      have hT : toS false (inAt l sz fz inner l.length) = inAt l sz fz inner l.length := by unfold toS; by_cases h : inAt l sz fz inner l.length > 0 <;> simp [h]; omega
      have hws : ∀ x ∈ wts l false fz l.length, 0 ≤ x := fun x hx => (wts_bd hok false fz x hx).1
      have hp : ∀ i, i < l.length → prt l false sz fz inner i ≤ 0 := by
        intro i hi
        rw [prt_eq l false sz fz inner i hi, hT]
        have := (ahd_le (n := inAt l sz fz inner l.length) hws i (by rw [wts_length]; exact hi)).2 hN
        omega
      have hrv := rv_turn (l := l) (gr := false) (inner := inner) (sz := sz) (fz := fz) l.length (Nat.le_refl _)
      have hfin : smA l (prt l false sz fz inner) fz l.length = 0 → iter l false inner m (nxS l false inner sz fz) (nxF l false inner sz fz) = nxS l false inner sz fz ∧ rst l inner (nxS l false inner sz fz) l.length = rv l inner sz fz (nxS l false inner sz fz) l.length := by
        intro h0
        have hf : ∀ i, i < l.length → nxF l false inner sz fz i = true := fun i _ => nxF_zero h0 i
        constructor
        · cases m with
          | zero => rfl
          | succ m => simp [iter, more_false hf]
        · rw [← rv_rst (sz := nxS l false inner sz fz) (v := nxS l false inner sz fz) l.length hf]
          refine rv_eq l.length (fun i hi => ?_)
          rw [if_pos (hf i hi)]
          cases e : fz i with
          | true => rw [if_pos rfl, (nx_old e).1]
          | false => simp
      by_cases hW : U.total (wts l false fz l.length) = 0
      · -- the others have no size: they stay so
        have hz : ∀ i, i < l.length → fz i = false → (itm l i).f0 = 0 := by
          intro i hi hf
          have h1 := total_zero_all hws hW (i := i) (by rw [wts_length]; exact hi)
          rw [wts_get l false fz i hi] at h1
          simp only [hf, wgt, Bool.false_eq_true, if_false] at h1
          have h4 := (hG.unf i hi hf).1
          rcases Int.mul_eq_zero.1 h1 with h | h
          · exact h
          · exact absurd h h4
        have hp0 : ∀ i, i < l.length → prt l false sz fz inner i = 0 := by
          intro i hi
          rw [prt_eq l false sz fz inner i hi, ahd_none hW, ahd_none hW]; rfl
        have hs0 : ∀ i, i < l.length → fz i = false → nxS l false inner sz fz i = 0 ∧ wrg l (prt l false sz fz inner) fz i = 0 := by
          intro i hi hf
          have h1 := (hG.unf i hi hf).2
          have h2 := (clampI_bd (okx_itm hok hi) (itm l i).f0).1
          rw [hz i hi hf] at h1 h2
          have h3 : nxS l false inner sz fz i = 0 := by rw [(nx_of hf).1, hz i hi hf, hp0 i hi, Int.add_zero]; omega
          exact ⟨h3, by rw [(nx_of hf).2, h3, hz i hi hf, hp0 i hi]; rfl⟩
        have hsm : ∀ n, n ≤ l.length → smA l (prt l false sz fz inner) fz n = 0 := by
          intro n
          induction n with
          | zero => intro _; rfl
          | succ n ih2 =>
            intro hn
            simp only [smA, ih2 (by omega)]
            cases e : fz n with
            | true => simp [wrg, e]
            | false => rw [(hs0 n (by omega) e).2]; rfl
        obtain ⟨e2, e3⟩ := hfin (hsm _ (Nat.le_refl _))
        rw [e2]
        rw [hsm _ (Nat.le_refl _), ahd_none hW] at hrv
        right
        refine ⟨by rw [e3, hrv]; omega, fun i hi h4 h0 hh => ?_⟩
        cases e : fz i with
        | false => have := hz i hi e; omega
        | true =>
          rw [(nx_old e).1]
          rcases hG.k with hk | ⟨high, hh1, hh2⟩
          · exact hk i hi e h4 hh
          · have h5 : rv l inner sz fz high l.length ≤ rv l inner sz fz (nxS l false inner sz fz) l.length := rv_mono l.length (fun j hj hf => by
              have := hh1 j hj hf
              rw [(hs0 j hj hf).1]; omega)
            rw [hrv] at h5
            omega
      · have hall := ahd_all (n := toS false (inAt l sz fz inner l.length)) hW
        rw [wts_length] at hall
        rw [hall, hT] at hrv
        by_cases h0 : smA l (prt l false sz fz inner) fz l.length = 0
        · obtain ⟨e2, e3⟩ := hfin h0
          rw [e2]
          left
          rw [e3, hrv]; omega
        · refine ih _ _ (by omega) ?_
          have hle : ∀ i, i < l.length → fz i = false → nxS l false inner sz fz i ≤ clampI (itm l i) (itm l i).f0 := fun i hi hf => by
            rw [(nx_of hf).1]; exact cl_mono _ (by have := hp i hi; omega)
          have hold : ∀ i, i < l.length → nxF l false inner sz fz i = false → fz i = false := fun i hi h => by
            cases e : fz i with
            | false => rfl
            | true => rw [(nx_old e).2] at h; cases h
          by_cases h1 : 0 < smA l (prt l false sz fz inner) fz l.length
          · -- those that were too small are frozen: they are at their least
            have hnew : ∀ i, i < l.length → fz i = false → nxF l false inner sz fz i = true → nxS l false inner sz fz i = max (itm l i).f1 0 := by
              intro i hi hf hn
              rw [nxF_pos h1 hf, decide_eq_true_eq, (nx_of hf).2] at hn
              rw [(nx_of hf).1] at hn ⊢
              exact cl_up (by omega)
            refine ⟨fun i hi h => hG.unf i hi (hold i hi h), ?_, ?_⟩
            · have e3 : rv l inner (nxS l false inner sz fz) (nxF l false inner sz fz) (fun i => clampI (itm l i) (itm l i).f0) l.length ≤ rv l inner sz fz (nxS l false inner sz fz) l.length := by
                refine rv_le l.length (fun i hi => ?_)
                cases e : fz i with
                | true => rw [if_pos rfl, if_pos (nx_old e).2, (nx_old e).1]; exact Int.le_refl _
                | false =>
                  have := hle i hi e
                  cases e2 : nxF l false inner sz fz i with
                  | true => simp
                  | false => simpa using this
              omega
            · rcases hG.k with hk | ⟨high, hl1, hl2⟩
              · left
                intro i hi hf h3 h4
                cases e : fz i with
                | true => rw [(nx_old e).1]; exact hk i hi e h3 h4
                | false => rw [hnew i hi e hf]; exact Int.le_refl _
              · right
                refine ⟨high, fun i hi h => hl1 i hi (hold i hi h), ?_⟩
                have e3 : rv l inner sz fz high l.length ≤ rv l inner (nxS l false inner sz fz) (nxF l false inner sz fz) high l.length := by
                  refine rv_le l.length (fun i hi => ?_)
                  cases e : fz i with
                  | true => rw [if_pos rfl, if_pos (nx_old e).2, (nx_old e).1]; exact Int.le_refl _
                  | false =>
                    cases e2 : nxF l false inner sz fz i with
                    | true =>
                      have h5 := hnew i hi e e2
                      have h6 := hl1 i hi e
                      simp [h5]; omega
                    | false => simp
                omega
          · -- those that were too great are frozen: they have what they would have had
            have h2 : smA l (prt l false sz fz inner) fz l.length < 0 := by omega
            have hnew : ∀ i, i < l.length → fz i = false → nxF l false inner sz fz i = true → nxS l false inner sz fz i = clampI (itm l i) (itm l i).f0 := by
              intro i hi hf hn
              rw [nxF_neg h2 hf, decide_eq_true_eq, (nx_of hf).2] at hn
              rw [(nx_of hf).1] at hn ⊢
              exact cl_down_same (by have := hp i hi; omega) (by omega)
            refine ⟨fun i hi h => hG.unf i hi (hold i hi h), ?_, .inr ⟨nxS l false inner sz fz, fun i hi h => ?_, ?_⟩⟩
            · have e3 : rv l inner (nxS l false inner sz fz) (nxF l false inner sz fz) (fun i => clampI (itm l i) (itm l i).f0) l.length = rv l inner sz fz (fun i => clampI (itm l i) (itm l i).f0) l.length := by
                refine rv_eq l.length (fun i hi => ?_)
                cases e : fz i with
                | true => rw [if_pos rfl, if_pos (nx_old e).2, (nx_old e).1]
                | false =>
                  cases e2 : nxF l false inner sz fz i with
                  | true => simp [hnew i hi e e2]
                  | false => simp
              rw [e3]; exact hG.h
            · rw [(nx_of (hold i hi h)).1]; exact cl_lo _ _
            · have e3 : rv l inner (nxS l false inner sz fz) (nxF l false inner sz fz) (nxS l false inner sz fz) l.length = rv l inner sz fz (nxS l false inner sz fz) l.length := by
                refine rv_eq l.length (fun i hi => ?_)
                cases e : fz i with
                | true => rw [if_pos rfl, if_pos (nx_old e).2, (nx_old e).1]
                | false => simp
              rw [e3, hrv]; omega

/-- Each size is within its bounds. -/
theorem iter_clamp {l : List S39} {gr : Bool} {inner : Int} : ∀ (m : Nat) (sz : Nat → Int) (fz : Nat → Bool), (∀ i, i < l.length → ∃ u, sz i = clampI (itm l i) u) → ∀ i, i < l.length → ∃ u, iter l gr inner m sz fz i = clampI (itm l i) u := by
  intro m
  induction m with
  | zero => intro sz fz h; exact h
  | succ m ih =>
    intro sz fz h
    simp only [iter]
    split
    · refine ih _ _ (fun i hi => ?_)
      cases e : fz i with
      | true => rw [(nx_old e).1]; exact h i hi
      | false => exact ⟨_, (nx_of e).1⟩
    · exact h
end Go.Proofs.Ytlcghlcpngafgaa.PFree
