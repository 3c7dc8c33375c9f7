/- Plain arithmetic: items without bounds are resolved by one turn. No Go in sight. -/
import Derived.Test.YtlcghlcpngafgaaFReo
import Derived.Test.YtlcghlcpngafgaaFFin
namespace Go.Proofs.Ytlcghlcpngafgaa.PFree
open Go.RowKit Go.Proofs.YtlcghlcpngafgaaW.PrintWords Go.Proofs.YtlcghlcpngafgaaW.PrintLast Go.Proofs.YtlcghlcpngafgaaW.PrintMore
set_option linter.unusedVariables false
set_option linter.unusedSimpArgs false

theorem rslv_length (l : List S39) (inner : Int) : (rslv l inner).length = l.length := lst_length _ _
theorem rslv_get (l : List S39) (inner : Int) {i : Nat} (h : i < l.length) : (rslv l inner).getD i 0 = iter l (grw l inner) inner l.length (fun i => hyp (itm l i)) (fun i => fix0 (grw l inner) (itm l i)) i := lst_getD _ _ h
theorem sm_zero {l : List S39} {p : Nat → Int} {fz : Nat → Bool} : ∀ n, (∀ i, i < n → fz i = false → wrg l p fz i = 0) → smA l p fz n = 0 := by
  intro n
  induction n with
  | zero => intro _; rfl
  | succ n ih =>
    intro h
    simp only [smA, ih (fun i hi => h i (by omega))]
    cases e : fz n with
    | true => simp [wrg, e]
    | false => rw [h n (by omega) e]; rfl
/-- One turn that takes nothing and adds nothing is the last. -/
theorem iter_one {l : List S39} {gr : Bool} {inner : Int} {sz : Nat → Int} {fz : Nat → Bool} {m : Nat} (hm : cnt fz l.length ≤ m) (h : smA l (prt l gr sz fz inner) fz l.length = 0) (i : Nat) (hi : i < l.length) : iter l gr inner m sz fz i = nxS l gr inner sz fz i := by
  cases e : moreA fz l.length with
  | false => rw [iter_done e, (nx_old (fz_all e hi)).1]
  | true =>
    have := nx_lt l gr inner sz fz e
    obtain ⟨m, rfl⟩ : ∃ q, m = q + 1 := ⟨m - 1, by omega⟩
    simp only [iter, e, if_true]
    rw [iter_done (more_false (fun i _ => nxF_zero h i))]
/-- Without bounds. -/
def NB (l : List S39) : Prop := ∀ x ∈ l, x.f1 = 0 ∧ x.f2 = -1
theorem nb_itm {l : List S39} (h : NB l) {i : Nat} (hi : i < l.length) : (itm l i).f1 = 0 ∧ (itm l i).f2 = -1 := h _ (by simp [itm, List.getD, hi])
theorem cl_nb {x : S39} (h : x.f1 = 0 ∧ x.f2 = -1) (m : Int) : clampI x m = max m 0 := by unfold clampI; rw [if_pos h.2]; omega
theorem hyp_nb {x : S39} (h : x.f1 = 0 ∧ x.f2 = -1) (hx : OkX x) : hyp x = x.f0 := by
  have := hx.1
  unfold hyp; rw [cl_nb h]; omega
def sumB (l : List S39) : Nat → Int
  | 0 => 0
  | i + 1 => sumB l i + ((itm l i).f0 + (itm l i).f5)
theorem sumH_nb {l : List S39} (hok : ∀ x ∈ l, OkX x) (h : NB l) : ∀ i, i ≤ l.length → sumH l i = sumB l i := by
  intro i
  induction i with
  | zero => intro _; rfl
  | succ i ih => intro hi; simp only [sumH, sumB, ih (by omega), hyp_nb (nb_itm h (show i < l.length by omega)) (okx_itm hok (by omega))]
theorem inAt_nb {l : List S39} (hok : ∀ x ∈ l, OkX x) (h : NB l) (inner : Int) (fz : Nat → Bool) : ∀ i, i ≤ l.length → inAt l (fun i => hyp (itm l i)) fz inner i = inner - sumB l i := by
  intro i
  induction i with
  | zero => intro _; simp [inAt, sumB]
  | succ i ih =>
    intro hi
    simp only [inAt, sumB, ih (by omega), hyp_nb (nb_itm h (show i < l.length by omega)) (okx_itm hok (by omega))]
    split <;> omega
theorem fix0_nb {x : S39} (h : x.f1 = 0 ∧ x.f2 = -1) (hx : OkX x) (gr : Bool) : fix0 gr x = decide ((if gr = true then x.f3 else x.f4) = 0) := by
  have e := hyp_nb h hx
  unfold hyp at e
  unfold fix0
  rw [e]
  cases gr <;> simp
/-- What is shared among items without bounds. -/
def prN (l : List S39) (inner : Int) : Nat → Int := prt l (grw l inner) (fun i => hyp (itm l i)) (fun i => fix0 (grw l inner) (itm l i)) inner
def wsN (l : List S39) (gr : Bool) : List Int := wts l gr (fun i => fix0 gr (itm l i)) l.length
theorem wsN_length (l : List S39) (gr : Bool) : (wsN l gr).length = l.length := wts_length _ _ _ _
theorem toS_N {l : List S39} (hok : ∀ x ∈ l, OkX x) (h : NB l) (inner : Int) : toS (grw l inner) (inner - sumB l l.length) = inner - sumB l l.length := by
  unfold toS grw
  rw [sumH_nb hok h _ (Nat.le_refl _)]
  by_cases e : sumB l l.length < inner
  · simp [e]
  · simp [e]
theorem prN_eq {l : List S39} (hok : ∀ x ∈ l, OkX x) (h : NB l) (inner : Int) (i : Nat) (hi : i < l.length) : prN l inner i = ahd (inner - sumB l l.length) (wsN l (grw l inner)) (i + 1) - ahd (inner - sumB l l.length) (wsN l (grw l inner)) i := by
  unfold prN
  rw [prt_eq _ _ _ _ _ i hi, inAt_nb hok h inner _ _ (Nat.le_refl _), toS_N hok h]
  rfl
theorem wsN_pos {l : List S39} (hok : ∀ x ∈ l, OkX x) (gr : Bool) : ∀ x ∈ wsN l gr, 0 ≤ x := fun x hx => (wts_bd hok gr _ x hx).1
theorem wsN_get {l : List S39} (hok : ∀ x ∈ l, OkX x) (h : NB l) (gr : Bool) (i : Nat) (hi : i < l.length) : (wsN l gr)[i]'(by rw [wsN_length]; exact hi) = wgt gr (itm l i) := by
  have e := wts_get l gr (fun i => fix0 gr (itm l i)) i hi
  have e2 : (wsN l gr)[i]'(by rw [wsN_length]; exact hi) = (wts l gr (fun i => fix0 gr (itm l i)) l.length)[i]'(by rw [wts_length]; exact hi) := rfl
  rw [e2, e]
  split
  · rename_i hf
    rw [fix0_nb (nb_itm h hi) (okx_itm hok hi), decide_eq_true_eq] at hf
    unfold wgt
    cases gr
    · simp only [Bool.false_eq_true, if_false] at hf ⊢; rw [hf, Int.mul_zero]
    · simp only [if_true] at hf ⊢; rw [hf]
  · rfl
/-- The size of an item without bounds. -/
theorem nb_val {l : List S39} (hok : ∀ x ∈ l, OkX x) (h : NB l) (inner : Int) (hp : ∀ i, i < l.length → 0 ≤ (itm l i).f0 + prN l inner i) (i : Nat) (hi : i < l.length) : (rslv l inner).getD i 0 = (itm l i).f0 + prN l inner i := by
  rw [rslv_get l inner hi]
  have hs : smA l (prN l inner) (fun i => fix0 (grw l inner) (itm l i)) l.length = 0 := by
    refine sm_zero _ (fun j hj hf => ?_)
    have h1 := nx_of (l := l) (gr := grw l inner) (inner := inner) (sz := fun i => hyp (itm l i)) (fz := fun i => fix0 (grw l inner) (itm l i)) (i := j) hf
    have h2 := hp j hj
    have h3 := h1.2
    rw [h1.1, cl_nb (nb_itm h hj)] at h3
    have e : prt l (grw l inner) (fun i => hyp (itm l i)) (fun i => fix0 (grw l inner) (itm l i)) inner = prN l inner := rfl
    rw [e] at h3
    rw [h3]; omega
  rw [iter_one (cnt_le _ _) hs i hi]
  cases e : fix0 (grw l inner) (itm l i) with
  | true =>
    rw [(nx_old (fz := fun i => fix0 (grw l inner) (itm l i)) e).1, hyp_nb (nb_itm h hi) (okx_itm hok hi)]
    have : prN l inner i = 0 := by
      rw [prN_eq hok h inner i hi, ahd_step0 (by rw [wsN_length]; exact hi)]
      · omega
      · have e2 := wts_get l (grw l inner) (fun i => fix0 (grw l inner) (itm l i)) i hi
        rw [if_pos e] at e2
        exact e2
    omega
  | false =>
    rw [(nx_of (fz := fun i => fix0 (grw l inner) (itm l i)) e).1, cl_nb (nb_itm h hi)]
    have := hp i hi
    have e2 : prt l (grw l inner) (fun i => hyp (itm l i)) (fun i => fix0 (grw l inner) (itm l i)) inner i = prN l inner i := rfl
    rw [e2]; omega
theorem grw_nb {l : List S39} (hok : ∀ x ∈ l, OkX x) (h : NB l) (inner : Int) : grw l inner = decide (sumB l l.length < inner) := by
  unfold grw; rw [sumH_nb hok h _ (Nat.le_refl _)]
/-- Growing, no part is below 0. -/
theorem nb_grow {l : List S39} (hok : ∀ x ∈ l, OkX x) (h : NB l) (inner : Int) (hg : sumB l l.length < inner) (i : Nat) (hi : i < l.length) : 0 ≤ prN l inner i := by
  rw [prN_eq hok h inner i hi]
  have := (ahd_le (n := inner - sumB l l.length) (wsN_pos hok (grw l inner)) i (by rw [wsN_length]; exact hi)).1 (by omega)
  omega
theorem nb_shrink {l : List S39} (hok : ∀ x ∈ l, OkX x) (h : NB l) (inner : Int) (hg : ¬ sumB l l.length < inner) (i : Nat) (hi : i < l.length) : prN l inner i ≤ 0 := by
  rw [prN_eq hok h inner i hi]
  have := (ahd_le (n := inner - sumB l l.length) (wsN_pos hok (grw l inner)) i (by rw [wsN_length]; exact hi)).2 (by omega)
  omega
/-- A part is what its weight tells, but for a unit. -/
theorem part_near (n : Int) {ws : List Int} (hW : 0 < U.total ws) {i : Nat} (hi : i < ws.length) : n * ws[i] / U.total ws ≤ ahd n ws (i + 1) - ahd n ws i ∧ ahd n ws (i + 1) - ahd n ws i ≤ n * ws[i] / U.total ws + 1 := by
  unfold ahd
  rw [U.total_take_succ ws i hi, Int.mul_add]
  have := U.floor_add (n * U.total (ws.take i)) (n * ws[i]) (U.total ws) hW
  omega

/-! ### the beginning, and the end, of any items -/
theorem rv_start (l : List S39) (inner : Int) (fz : Nat → Bool) : ∀ i, rv l inner (fun i => hyp (itm l i)) fz (fun i => clampI (itm l i) (itm l i).f0) i = inner - sumH l i := by
  intro i
  induction i with
  | zero => simp [rv, sumH]
  | succ i ih =>
    have e : hyp (itm l i) = clampI (itm l i) (itm l i).f0 := rfl
    simp only [rv, sumH, ih, e]
    split <;> omega
theorem start_G {l : List S39} (hok : ∀ x ∈ l, OkX x) (inner : Int) (hgr : grw l inner = true) : GI l inner (fun i => hyp (itm l i)) (fun i => fix0 true (itm l i)) := by
  refine ⟨fun i hi h => ?_, ?_, .inl (fun i hi h h3 => ?_)⟩
  · simp only [fix0, if_true, Bool.or_eq_false_iff, decide_eq_false_iff_not] at h
    exact ⟨h.1, by omega⟩
  · rw [rv_start]
    simp only [grw, decide_eq_true_eq] at hgr
    omega
  · simp only [fix0, if_true, Bool.or_eq_true, decide_eq_true_eq] at h
    rcases h with h | h
    · exact absurd h h3
    · have := cl_down (okx_itm hok hi).2.2.2.2.1 h
      refine ⟨this.1, ?_⟩
      show _ ≤ clampI (itm l i) (itm l i).f0
      rw [this.2]; unfold capX; omega
theorem start_S {l : List S39} (hok : ∀ x ∈ l, OkX x) (inner : Int) (hgr : grw l inner = false) : SI l inner (fun i => hyp (itm l i)) (fun i => fix0 false (itm l i)) := by
  refine ⟨fun i hi h => ?_, ?_, .inl (fun i hi h h4 h5 => ?_)⟩
  · simp only [fix0, Bool.false_eq_true, if_false, Bool.or_eq_false_iff, decide_eq_false_iff_not] at h
    exact ⟨h.1, by omega⟩
  · rw [rv_start]
    simp only [grw, decide_eq_false_iff_not] at hgr
    omega
  · simp only [fix0, Bool.false_eq_true, if_false, Bool.or_eq_true, decide_eq_true_eq] at h
    rcases h with h | h
    · exact absurd h h4
    · omega
theorem iter_bd {l : List S39} {gr : Bool} {inner : Int} (hn : l.length ≤ 500) (hi0 : -8796093022208 ≤ inner) (hi1 : inner ≤ 36028797018963968) (hok : ∀ x ∈ l, OkX x) : ∀ (m : Nat) (sz : Nat → Int) (fz : Nat → Bool), cnt fz l.length ≤ m → Inv l inner sz fz → ∀ i, i < l.length → 0 ≤ iter l gr inner m sz fz i ∧ iter l gr inner m sz fz i ≤ 288230376151711744 := by
  intro m
  have done : ∀ (sz : Nat → Int) (fz : Nat → Bool), moreA fz l.length = false → Inv l inner sz fz → ∀ i, i < l.length → 0 ≤ sz i ∧ sz i ≤ 288230376151711744 := by
    intro sz fz hm hI i hi
    rcases hI with h | ⟨_, h⟩
    · have := h i hi (fz_all hm hi); omega
    · exact h.1 i hi (fz_all hm hi)
  induction m with
  | zero => intro sz fz hc hI; exact done sz fz (cnt_zero _ (by omega)) hI
  | succ m ih =>
    intro sz fz hc hI
    cases hm : moreA fz l.length with
    | false => simp only [iter, hm, Bool.false_eq_true, if_false]; exact done sz fz hm hI
    | true =>
      simp only [iter, hm, if_true]
      have := nx_lt l gr inner sz fz hm
      exact ih _ _ (by omega) (inv_step hn hi0 hi1 hok hm hI)
theorem rslv_bd {l : List S39} {inner : Int} (hn : l.length ≤ 500) (hi0 : -8796093022208 ≤ inner) (hi1 : inner ≤ 36028797018963968) (hok : ∀ x ∈ l, OkX x) {i : Nat} (hi : i < l.length) : 0 ≤ (rslv l inner).getD i 0 ∧ (rslv l inner).getD i 0 ≤ 288230376151711744 := by
  rw [rslv_get l inner hi]
  exact iter_bd hn hi0 hi1 hok _ _ _ (cnt_le _ _) (inv_start hok _) i hi
theorem rslv_clamp {l : List S39} {inner : Int} {i : Nat} (hi : i < l.length) : ∃ u, (rslv l inner).getD i 0 = clampI (itm l i) u := by
  rw [rslv_get l inner hi]
  exact iter_clamp _ _ _ (fun j _ => ⟨_, rfl⟩) i hi
end Go.Proofs.Ytlcghlcpngafgaa.PFree
