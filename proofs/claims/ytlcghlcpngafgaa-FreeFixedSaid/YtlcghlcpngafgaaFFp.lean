/- What FreeFixed asks of free.Resolve, in plain Lean: an item without a factor, put between items without bounds. No Go in sight. -/
import Derived.Test.YtlcghlcpngafgaaFPl
namespace Go.Proofs.Ytlcghlcpngafgaa.PFree
open Go.RowKit Go.Proofs.YtlcghlcpngafgaaW.PrintWords Go.Proofs.YtlcghlcpngafgaaW.PrintLast Go.Proofs.YtlcghlcpngafgaaW.PrintMore
set_option linter.unusedVariables false
/-- No bounds, or no factor and at its base. -/
def NF (l : List S39) : Prop := ∀ x ∈ l, x.f5 = 0 ∧ hyp x = x.f0 ∧ ((x.f1 = 0 ∧ x.f2 = -1) ∨ x.f3 = 0)
theorem nf_itm {l : List S39} (h : NF l) {i : Nat} (hi : i < l.length) : (itm l i).f5 = 0 ∧ hyp (itm l i) = (itm l i).f0 ∧ (((itm l i).f1 = 0 ∧ (itm l i).f2 = -1) ∨ (itm l i).f3 = 0) := h _ (by simp [itm, List.getD, hi])
theorem sumH_nf {l : List S39} (h : NF l) : ∀ i, i ≤ l.length → sumH l i = sumB l i := by
  intro i
  induction i with
  | zero => intro _; rfl
  | succ i ih => intro hi; simp only [sumH, sumB, ih (by omega), (nf_itm h (show i < l.length by omega)).2.1]
theorem inAt_nf {l : List S39} (h : NF l) (inner : Int) (fz : Nat → Bool) : ∀ i, i ≤ l.length → inAt l (fun i => hyp (itm l i)) fz inner i = inner - sumB l i := by
  intro i
  induction i with
  | zero => intro _; simp [inAt, sumB]
  | succ i ih =>
    intro hi
    simp only [inAt, sumB, ih (by omega), (nf_itm h (show i < l.length by omega)).2.1]
    split <;> omega
theorem fix0_nf {x : S39} (h : hyp x = x.f0) : fix0 true x = decide (x.f3 = 0) := by
  unfold hyp at h
  unfold fix0
  rw [h]; simp
theorem wts_nf {l : List S39} (h : NF l) : wts l true (fun i => fix0 true (itm l i)) l.length = l.map (·.f3) := by
  refine List.ext_getElem (by rw [wts_length, List.length_map]) (fun i h1 h2 => ?_)
  have hi : i < l.length := by rw [wts_length] at h1; exact h1
  rw [wts_get l true _ i hi, List.getElem_map]
  have e : itm l i = l[i] := by simp [itm, List.getD, hi]
  rw [fix0_nf (nf_itm h hi).2.1, e]
  by_cases q : l[i].f3 = 0
  · rw [if_pos (decide_eq_true q), q]
  · rw [if_neg (by simp [q])]; rfl
/-- What item i gets. -/
def gpt (N : Int) (ws : List Int) (i : Nat) : Int := ahd N ws (i + 1) - ahd N ws i
theorem nf_val {l : List S39} (hok : ∀ x ∈ l, OkX x) (h : NF l) (inner : Int) (hg : sumB l l.length < inner) (i : Nat) (hi : i < l.length) : (rslv l inner).getD i 0 = (itm l i).f0 + gpt (inner - sumB l l.length) (l.map (·.f3)) i := by
  have hgr : grw l inner = true := by unfold grw; rw [sumH_nf h _ (Nat.le_refl _)]; exact decide_eq_true hg
  have hws : ∀ x ∈ l.map (·.f3), 0 ≤ x := by
    intro x hx
    obtain ⟨y, hy, rfl⟩ := List.mem_map.1 hx
    exact (hok y hy).2.2.2.2.2.2.1
  have hpt : ∀ j, j < l.length → prt l true (fun i => hyp (itm l i)) (fun i => fix0 true (itm l i)) inner j = gpt (inner - sumB l l.length) (l.map (·.f3)) j := by
    intro j hj
    rw [prt_eq _ _ _ _ _ j hj, inAt_nf h inner _ _ (Nat.le_refl _), wts_nf h]
    have : toS true (inner - sumB l l.length) = inner - sumB l l.length := by unfold toS; simp; omega
    rw [this]; rfl
  have hp0 : ∀ j, j < l.length → 0 ≤ gpt (inner - sumB l l.length) (l.map (·.f3)) j := by
    intro j hj
    have := (ahd_le (n := inner - sumB l l.length) hws j (by rw [List.length_map]; exact hj)).1 (by omega)
    unfold gpt; omega
  rw [rslv_get l inner hi, hgr]
  have hs : smA l (prt l true (fun i => hyp (itm l i)) (fun i => fix0 true (itm l i)) inner) (fun i => fix0 true (itm l i)) l.length = 0 := by
    refine sm_zero _ (fun j hj hf => ?_)
    have h1 := nx_of (l := l) (gr := true) (inner := inner) (sz := fun i => hyp (itm l i)) (fz := fun i => fix0 true (itm l i)) (i := j) hf
    have h2 := hp0 j hj
    have h3 := h1.2
    have hx := okx_itm hok hj
    have hb : (itm l j).f1 = 0 ∧ (itm l j).f2 = -1 := by
      rcases (nf_itm h hj).2.2 with hb | hb
      · exact hb
      · rw [fix0_nf (nf_itm h hj).2.1] at hf; simp [hb] at hf
    rw [h1.1, cl_nb hb, hpt j hj] at h3
    rw [h3]; have := hx.1; omega
  rw [iter_one (cnt_le _ _) hs i hi]
  cases e : fix0 true (itm l i) with
  | true =>
    rw [(nx_old (fz := fun i => fix0 true (itm l i)) e).1, (nf_itm h hi).2.1]
    have : gpt (inner - sumB l l.length) (l.map (·.f3)) i = 0 := by
      unfold gpt
      rw [ahd_step0 (by rw [List.length_map]; exact hi)]
      · omega
      · rw [fix0_nf (nf_itm h hi).2.1, decide_eq_true_eq] at e
        have e2 : itm l i = l[i] := by simp [itm, List.getD, hi]
        rw [List.getElem_map, ← e2]; exact e
    omega
  | false =>
    have hb : (itm l i).f1 = 0 ∧ (itm l i).f2 = -1 := by
      rcases (nf_itm h hi).2.2 with hb | hb
      · exact hb
      · rw [fix0_nf (nf_itm h hi).2.1] at e; simp [hb] at e
    rw [(nx_of (fz := fun i => fix0 true (itm l i)) e).1, cl_nb hb, hpt i hi]
    have := hp0 i hi
    have := (okx_itm hok hi).1
    omega
/-! ### one put between -/
def ins {α : Type} (k : Nat) (a : α) (l : List α) : List α := l.take k ++ a :: l.drop k
theorem ins_length {α : Type} {k : Nat} {a : α} {l : List α} (hk : k ≤ l.length) : (ins k a l).length = l.length + 1 := by simp [ins]; omega
theorem ins_lo {α : Type} {k : Nat} {a d : α} {l : List α} (hk : k ≤ l.length) {i : Nat} (h : i < k) : (ins k a l).getD i d = l.getD i d := by
  unfold ins
  rw [List.getD_eq_getElem?_getD, List.getElem?_append_left (by rw [List.length_take]; omega), List.getElem?_take_of_lt h, ← List.getD_eq_getElem?_getD]
theorem ins_mid {α : Type} {k : Nat} {a d : α} {l : List α} (hk : k ≤ l.length) : (ins k a l).getD k d = a := by
  unfold ins
  rw [List.getD_eq_getElem?_getD, List.getElem?_append_right (by rw [List.length_take]; omega)]
  simp [List.length_take, Nat.min_eq_left hk]
theorem ins_hi {α : Type} {k : Nat} {a d : α} {l : List α} (hk : k ≤ l.length) {i : Nat} (h : k ≤ i) : (ins k a l).getD (i + 1) d = l.getD i d := by
  unfold ins
  rw [List.getD_eq_getElem?_getD, List.getElem?_append_right (by rw [List.length_take]; omega), List.length_take, Nat.min_eq_left hk]
  have : i + 1 - k = (i - k) + 1 := by omega
  rw [this, List.getElem?_cons_succ, List.getElem?_drop, List.getD_eq_getElem?_getD]
  congr 2; omega
theorem tot_ins (k : Nat) (ws : List Int) : U.total (ins k 0 ws) = U.total ws := by
  unfold ins
  rw [U.total_append]
  simp only [U.total]
  have : U.total ws = U.total (ws.take k ++ ws.drop k) := by rw [List.take_append_drop]
  rw [this, U.total_append]; omega
theorem take_lo (k : Nat) (ws : List Int) (hk : k ≤ ws.length) {i : Nat} (h : i ≤ k) : (ins k 0 ws).take i = ws.take i := by
  unfold ins
  rw [List.take_append_of_le_length (by rw [List.length_take]; omega), List.take_take, Nat.min_eq_left h]
theorem take_hi (k : Nat) (ws : List Int) (hk : k ≤ ws.length) {i : Nat} (h : k ≤ i) : U.total ((ins k 0 ws).take (i + 1)) = U.total (ws.take i) := by
  unfold ins
  rw [List.take_append, List.length_take, Nat.min_eq_left hk, List.take_take, Nat.min_eq_right (by omega)]
  have e1 : i + 1 - k = (i - k) + 1 := by omega
  rw [e1, List.take_succ_cons, U.total_append]
  simp only [U.total]
  have e2 : ws.take i = ws.take k ++ (ws.drop k).take (i - k) := by
    have := List.take_add (l := ws) (i := k) (j := i - k)
    rw [← this]; congr 1; omega
  rw [e2, U.total_append]; omega
theorem gpt_lo (N : Int) (k : Nat) (ws : List Int) (hk : k ≤ ws.length) {i : Nat} (h : i < k) : gpt N (ins k 0 ws) i = gpt N ws i := by
  unfold gpt ahd; rw [tot_ins, take_lo k ws hk (by omega), take_lo k ws hk (by omega)]
theorem gpt_hi (N : Int) (k : Nat) (ws : List Int) (hk : k ≤ ws.length) {i : Nat} (h : k ≤ i) : gpt N (ins k 0 ws) (i + 1) = gpt N ws i := by
  unfold gpt ahd; rw [tot_ins, take_hi k ws hk (by omega), take_hi k ws hk h]
theorem gpt_mid (N : Int) (k : Nat) (ws : List Int) (hk : k ≤ ws.length) : gpt N (ins k 0 ws) k = 0 := by
  unfold gpt ahd; rw [take_hi k ws hk (Nat.le_refl _), take_lo k ws hk (Nat.le_refl _)]; omega
theorem map_ins (k : Nat) (x : S39) (l : List S39) (hx : x.f3 = 0) : (ins k x l).map (·.f3) = ins k 0 (l.map (·.f3)) := by
  unfold ins; rw [List.map_append, List.map_cons, List.map_take, List.map_drop, hx]
theorem sumB_lo (k : Nat) (x : S39) (l : List S39) (hk : k ≤ l.length) : ∀ i, i ≤ k → sumB (ins k x l) i = sumB l i := by
  intro i
  induction i with
  | zero => intro _; rfl
  | succ i ih =>
    intro hi
    have e : itm (ins k x l) i = itm l i := ins_lo hk (by omega)
    simp only [sumB, ih (by omega), e]
theorem sumB_hi (k : Nat) (x : S39) (l : List S39) (hk : k ≤ l.length) : ∀ i, sumB (ins k x l) (k + i + 1) = sumB l (k + i) + (x.f0 + x.f5) := by
  intro i
  induction i with
  | zero =>
    have e : itm (ins k x l) k = x := ins_mid hk
    simp only [Nat.add_zero, sumB, sumB_lo k x l hk k (Nat.le_refl _), e]
  | succ i ih =>
    have e : itm (ins k x l) (k + i + 1) = itm l (k + i) := ins_hi hk (by omega)
    have e2 : k + (i + 1) + 1 = (k + i + 1) + 1 := by omega
    have e3 : k + (i + 1) = (k + i) + 1 := by omega
    rw [e2, e3]
    simp only [sumB] at ih ⊢
    rw [e]; omega
/-- The plain law. -/
theorem fixed_law {l : List S39} (hok : ∀ x ∈ l, OkX x) (h : NF l) (x : S39) (hx : OkX x) (hx3 : x.f3 = 0) (hx5 : x.f5 = 0) (hxh : hyp x = x.f0) (k : Nat) (hk : k ≤ l.length) (more : Int) (hm : 0 < more) :
    rslv (ins k x l) (sumB l l.length + more + x.f0) = ins k x.f0 (rslv l (sumB l l.length + more)) := by
  have hmem : ∀ y ∈ ins k x l, y = x ∨ y ∈ l := by
    intro y hy
    simp only [ins, List.mem_append, List.mem_cons] at hy
    rcases hy with hy | hy | hy
    · exact .inr (List.mem_of_mem_take hy)
    · exact .inl hy
    · exact .inr (List.mem_of_mem_drop hy)
  have hok2 : ∀ y ∈ ins k x l, OkX y := fun y hy => by rcases hmem y hy with rfl | hy; exact hx; exact hok y hy
  have h2 : NF (ins k x l) := fun y hy => by rcases hmem y hy with rfl | hy; exact ⟨hx5, hxh, .inr hx3⟩; exact h y hy
  have hsum : sumB (ins k x l) (ins k x l).length = sumB l l.length + x.f0 := by
    have := sumB_hi k x l hk (l.length - k)
    rw [ins_length hk]
    have e : k + (l.length - k) = l.length := by omega
    rw [e] at this
    rw [this, hx5]; omega
  have hN : sumB l l.length + more + x.f0 - sumB (ins k x l) (ins k x l).length = more := by omega
  have hN2 : sumB l l.length + more - sumB l l.length = more := by omega
  have hml : k ≤ (l.map (·.f3)).length := by rw [List.length_map]; exact hk
  refine List.ext_getElem (by rw [rslv_length, ins_length hk, ins_length (by rw [rslv_length]; exact hk), rslv_length]) (fun i h3 h4 => ?_)
  have hi : i < l.length + 1 := by rw [rslv_length, ins_length hk] at h3; exact h3
  have e1 : ∀ (q : List Int) (hq : i < q.length), q[i] = q.getD i 0 := fun q hq => by simp [List.getD, hq]
  rw [e1 _ h3, e1 _ h4, nf_val hok2 h2 _ (by omega) i (by rw [ins_length hk]; exact hi), hN, map_ins k x l hx3]
  by_cases c : i < k
  · have e : itm (ins k x l) i = itm l i := ins_lo hk c
    rw [e, gpt_lo _ k _ hml c, ins_lo (by rw [rslv_length]; exact hk) c, nf_val hok h _ (by omega) i (by omega), hN2]
  · by_cases c2 : i = k
    · subst c2
      have e : itm (ins i x l) i = x := ins_mid hk
      rw [e, gpt_mid _ i _ hml, ins_mid (by rw [rslv_length]; exact hk)]; omega
    · obtain ⟨j, rfl⟩ : ∃ j, i = j + 1 := ⟨i - 1, by omega⟩
      have e : itm (ins k x l) (j + 1) = itm l j := ins_hi hk (by omega)
      rw [e, gpt_hi _ k _ hml (by omega), ins_hi (by rw [rslv_length]; exact hk) (by omega), nf_val hok h _ (by omega) j (by omega), hN2]
end Go.Proofs.Ytlcghlcpngafgaa.PFree
