/- Plain lemmas on the functions of package unit as they were printed for the law UnitRounds: what Hold, Ratio, Px, Pct, Share and Add come to. No Go in sight. -/
import Derived.Test.YtlnhhamfmnjapaaPUnitRoundsx
namespace Go.Proofs.Ytlnhhamfmnjapaa.PUnitRounds.U
open Go.RowKit Go.Proofs.YtlnhhamfmnjapaaW.PrintWords Go.Proofs.YtlnhhamfmnjapaaW.PrintLast Go.Proofs.YtlnhhamfmnjapaaW.PrintMore
set_option linter.unusedVariables false
set_option linter.unusedSimpArgs false

theorem w64 {x : Int} (h0 : -9223372036854775808 ≤ x) (h1 : x < 9223372036854775808) : wrap64 x = x := by unfold wrap64; omega
theorem u64w {x : Int} (h0 : 0 ≤ x) (h1 : x < 18446744073709551616) : IntKind.u64.wrap x = x := by
  simp [IntKind.wrap, IntKind.bits, IntKind.signed]; omega
theorem i64_of_wf {x : Int} (h : (Lit.int .i64 x).wf = true) : -9223372036854775808 ≤ x ∧ x ≤ 9223372036854775807 := by
  simp [Lit.wf, IntKind.min, IntKind.max, IntKind.signed, IntKind.bits] at h
  exact ⟨by omega, by omega⟩

/-- n, held to bounds. -/
def held (n m : Int) : Int := if n < -m then -m else if m < n then m else n
theorem held_bd {n m : Int} (hm : 0 ≤ m) : -m ≤ held n m ∧ held n m ≤ m := by unfold held; split <;> (try split) <;> omega
theorem held_id {n m : Int} (h0 : -m ≤ n) (h1 : n ≤ m) : held n m = n := by unfold held; rw [if_neg (by omega), if_neg (by omega)]
theorem within_eq (n m : Int) (hm : 0 ≤ m) (hm1 : m < 9223372036854775808) : unit_within.f n m = some (held n m) := by
  unfold unit_within.f held mx mn
  rw [w64 (by omega) (by omega)]
  congr 1
  split <;> split <;> (try split) <;> omega
theorem Hold_eq (n : Int) : unit_Hold.f n = some (held n 1073741824) := by
  unfold unit_Hold.f; rw [within_eq n _ (by decide) (by decide)]; rfl

theorem floor_eq (a b : Int) (hb : 0 < b) (ha0 : -9223372036854775807 ≤ a) (ha1 : a < 9223372036854775808) (hb1 : b < 9223372036854775808) : unit_floor.f a b = some (a / b) := by
  unfold unit_floor.f
  rw [if_neg (by omega)]
  have e1 := Int.mul_ediv_add_emod a b
  have e2 := Int.mul_tdiv_add_tmod a b
  have m0 := Int.emod_nonneg a (b := b) (by omega)
  have m1 := Int.emod_lt_of_pos a hb
  by_cases h : 0 ≤ a
  · have t : Int.tmod a b = a % b := Int.tmod_eq_emod_of_nonneg h
    have q : Int.tdiv a b = a / b := Int.tdiv_eq_ediv_of_nonneg h
    have q0 : 0 ≤ a / b := Int.ediv_nonneg h (by omega)
    have q1 : a / b ≤ a := Int.ediv_le_self _ h
    rw [t, q, if_neg (by omega), w64 (by omega) (by omega)]
  · obtain ⟨c, rfl⟩ : ∃ c, a = -c := ⟨-a, by omega⟩
    have hc : 0 ≤ c := by omega
    have t : Int.tmod (-c) b = -(c % b) := by rw [Int.neg_tmod, Int.tmod_eq_emod_of_nonneg hc]
    have q : Int.tdiv (-c) b = -(c / b) := by rw [Int.neg_tdiv, Int.tdiv_eq_ediv_of_nonneg hc]
    have n0 := Int.emod_nonneg c (b := b) (by omega)
    have n1 := Int.emod_lt_of_pos c hb
    have f := Int.mul_ediv_add_emod c b
    have q0 : 0 ≤ c / b := Int.ediv_nonneg hc (by omega)
    have q1 : c / b ≤ c := Int.ediv_le_self _ hc
    rw [t, q]
    by_cases hz : c % b = 0
    · rw [if_neg (by omega), w64 (by omega) (by omega)]
      have : -c / b = -(c / b) := ((Int.ediv_emod_unique (r := 0) (q := -(c / b)) hb).2 ⟨by rw [Int.mul_neg]; omega, by omega, hb⟩).1
      rw [this]
    · rw [if_pos (by omega), w64 (x := -(c / b)) (by omega) (by omega), w64 (by omega) (by omega)]
      have : -c / b = -(c / b) - 1 := ((Int.ediv_emod_unique (r := b - c % b) (q := -(c / b) - 1) hb).2 ⟨by rw [Int.mul_sub, Int.mul_neg]; omega, by omega, by omega⟩).1
      rw [this]
theorem nearest_eq (a b : Int) (hb : 0 < b) (ha0 : -4000000000000000000 ≤ a) (ha1 : a ≤ 4000000000000000000) (hb1 : b ≤ 1000000000000) : unit_nearest.f a b = some ((2 * a + b) / (2 * b)) := by
  unfold unit_nearest.f
  rw [w64 (x := 2 * a) (by omega) (by omega), w64 (x := 2 * a + b) (by omega) (by omega), w64 (x := 2 * b) (by omega) (by omega), floor_eq _ _ (by omega) (by omega) (by omega) (by omega)]; rfl
def px (t : Int) : Int := held ((2 * (64 * held t 1000000000000) + 1000) / 2000) 1073741824
theorem Px_eq (t : Int) : unit_Px.f t = some (px t) := by
  unfold unit_Px.f px
  have ⟨h0, h1⟩ := held_bd (n := t) (m := 1000000000000) (by decide)
  rw [within_eq t _ (by decide) (by decide)]
  simp only [Option.bind_some]
  rw [w64 (by omega) (by omega), nearest_eq _ _ (by decide) (by omega) (by omega) (by decide)]
  simp only [Option.bind_some, Hold_eq]
  rfl
theorem mul_bd {a b A B : Int} (ha0 : -A ≤ a) (ha1 : a ≤ A) (hb0 : -B ≤ b) (hb1 : b ≤ B) : -(A * B) ≤ a * b ∧ a * b ≤ A * B := by
  have hA : 0 ≤ A := by omega
  have hB : 0 ≤ B := by omega
  have k : (a * b).natAbs ≤ (A * B).natAbs := by
    rw [Int.natAbs_mul, Int.natAbs_mul]
    exact Nat.mul_le_mul (by omega) (by omega)
  have : 0 ≤ A * B := Int.mul_nonneg hA hB
  omega
def pct (b h : Int) : Int := held ((2 * (held b 1073741824 * held h 1000000000) + 10000) / 20000) 1073741824
theorem Pct_eq (b h : Int) : unit_Pct.f b h = some (pct b h) := by
  unfold unit_Pct.f pct
  have ⟨h0, h1⟩ := held_bd (n := b) (m := 1073741824) (by decide)
  have ⟨k0, k1⟩ := held_bd (n := h) (m := 1000000000) (by decide)
  have ⟨m0, m1⟩ := mul_bd h0 h1 k0 k1
  rw [Hold_eq, within_eq h _ (by decide) (by decide)]
  simp only [Option.bind_some]
  rw [w64 (by omega) (by omega), nearest_eq _ _ (by decide) (by omega) (by omega) (by decide)]
  simp only [Option.bind_some, Hold_eq]
  rfl

/-- Ratio, where its arguments may be. -/
theorem Ratio_eq (n p w : Int) (hn0 : -1152921504606846976 ≤ n) (hn1 : n ≤ 1152921504606846976) (hp0 : 0 ≤ p) (hp1 : p ≤ w) (hw0 : 1 ≤ w) (hw1 : w ≤ 1152921504606846976) (k : Nat) (hk : 1 ≤ k) :
    unit_Ratio.f k n p w = some (n * p / w) := by
  obtain ⟨k, rfl⟩ : ∃ m, k = m + 1 := ⟨k - 1, by omega⟩
  unfold unit_Ratio.f
  rw [if_neg (by omega), if_neg (by omega), if_neg (by omega), if_neg (by omega), if_neg (by omega)]
  simp only [unit_Ratio.j0]
  rw [if_neg (by simp; omega)]
  obtain ⟨a, ha⟩ : ∃ a, a = mx n (wrap64 (-n)) := ⟨_, rfl⟩
  rw [w64 (by omega) (by omega)] at ha ⊢
  rw [← ha]
  have ha0 : 0 ≤ a := by rw [ha]; unfold mx; split <;> omega
  have ha1 : a ≤ 1152921504606846976 := by rw [ha]; unfold mx; split <;> omega
  rw [u64w ha0 (by omega), u64w hp0 (by omega), u64w (x := w) (by omega) (by omega)]
  unfold bits_Mul64.f
  rw [if_pos ⟨ha0, by omega, hp0, by omega⟩]
  simp only [Option.bind_some]
  have hap0 : 0 ≤ a * p := Int.mul_nonneg ha0 hp0
  have hap1 : a * p ≤ 1152921504606846976 * w := by
    have h1 : a * p ≤ a * w := Int.mul_le_mul_of_nonneg_left hp1 ha0
    have h2 : a * w ≤ 1152921504606846976 * w := Int.mul_le_mul_of_nonneg_right ha1 (by omega)
    omega
  have hap2 : a * p ≤ a * w := Int.mul_le_mul_of_nonneg_left hp1 ha0
  obtain ⟨z, hz⟩ : ∃ z, z = a * p := ⟨_, rfl⟩
  rw [← hz] at hap0 hap1 hap2 ⊢
  unfold bits_Div64.f
  rw [if_pos ⟨by omega, by omega, by omega, by omega, by omega⟩]
  simp only [Option.bind_some]
  rw [show z / 18446744073709551616 * 18446744073709551616 + z % 18446744073709551616 = z from by omega]
  have q0 : 0 ≤ z / w := Int.ediv_nonneg hap0 (by omega)
  have q1 : z / w ≤ a := by
    have := Int.ediv_le_ediv (c := w) (by omega) hap2
    rwa [Int.mul_ediv_cancel _ (by omega)] at this
  have r0 := Int.emod_nonneg z (b := w) (by omega)
  have r1 := Int.emod_lt_of_pos z (b := w) (by omega)
  have e := Int.mul_ediv_add_emod z w
  rw [w64 (x := z / w) (by omega) (by omega)]
  by_cases hs : n ≥ 0
  · have : a = n := by rw [ha]; unfold mx; rw [if_neg (by omega)]
    rw [if_pos hs, hz, this]
  · have hna : n = -a := by rw [ha]; unfold mx; rw [if_pos (by omega)]; omega
    have hnp : n * p = -z := by rw [hna, hz, Int.neg_mul]
    rw [if_neg hs, hnp]
    by_cases hr : z % w > 0
    · rw [if_pos hr, w64 (x := z / w + 1) (by omega) (by omega), w64 (by omega) (by omega)]
      congr 1; symm
      exact ((Int.ediv_emod_unique (r := w - z % w) (q := -(z / w + 1)) (by omega)).2 ⟨by rw [Int.mul_neg, Int.mul_add]; omega, by omega, by omega⟩).1
    · rw [if_neg hr, w64 (by omega) (by omega)]
      congr 1; symm
      exact ((Int.ediv_emod_unique (r := 0) (q := -(z / w)) (by omega)).2 ⟨by rw [Int.mul_neg]; omega, by omega, by omega⟩).1
/-- Ratio, where its arguments may not be. -/
theorem Ratio_no (n p w : Int) (h : w < 1 ∨ w > 1152921504606846976 ∨ p < 0 ∨ p > w ∨ n < -1152921504606846976 ∨ n > 1152921504606846976) (k : Nat) (hk : 1 ≤ k) : unit_Ratio.f k n p w = some 0 := by
  obtain ⟨k, rfl⟩ : ∃ m, k = m + 1 := ⟨k - 1, by omega⟩
  have hj : unit_Ratio.j0 (k + 1) n p w true = some 0 := by simp only [unit_Ratio.j0]; rfl
  unfold unit_Ratio.f
  by_cases h1 : w < 1
  · rw [if_pos h1, hj]
  rw [if_neg h1]
  by_cases h2 : w > 1152921504606846976
  · rw [if_pos h2, hj]
  rw [if_neg h2]
  by_cases h3 : p < 0
  · rw [if_pos h3, hj]
  rw [if_neg h3]
  by_cases h4 : p > w
  · rw [if_pos h4, hj]
  rw [if_neg h4]
  by_cases h5 : n < -1152921504606846976
  · rw [if_pos h5, hj]
  rw [if_neg h5, decide_eq_true (by omega), hj]
/-- Ratio, of none, too. -/
theorem Ratio_any (n p w : Int) (hn0 : -1152921504606846976 ≤ n) (hn1 : n ≤ 1152921504606846976) (hp0 : 0 ≤ p) (hp1 : p ≤ w) (hw1 : w ≤ 1152921504606846976) (k : Nat) (hk : 1 ≤ k) :
    unit_Ratio.f k n p w = some (n * p / w) := by
  by_cases h : 1 ≤ w
  · exact Ratio_eq n p w hn0 hn1 hp0 hp1 h hw1 k hk
  · obtain rfl : w = 0 := by omega
    rw [Ratio_no n p 0 (Or.inl (by decide)) k hk, Int.ediv_zero]
theorem ratio_bd {n p w : Int} (hn0 : -1152921504606846976 ≤ n) (hn1 : n ≤ 1152921504606846976) (hp0 : 0 ≤ p) (hp1 : p ≤ w) : -1152921504606846976 ≤ n * p / w ∧ n * p / w ≤ 1152921504606846976 := by
  by_cases h : w = 0
  · subst h; rw [Int.ediv_zero]; omega
  have hw : 0 < w := by omega
  constructor
  · apply (Int.le_ediv_iff_mul_le hw).2
    have h1 : (-1152921504606846976) * w ≤ (-1152921504606846976) * p := Int.mul_le_mul_of_nonpos_left (by decide) hp1
    have h2 : (-1152921504606846976) * p ≤ n * p := Int.mul_le_mul_of_nonneg_right hn0 hp0
    omega
  · have h1 : n * p ≤ 1152921504606846976 * p := Int.mul_le_mul_of_nonneg_right hn1 hp0
    have h2 : 1152921504606846976 * p ≤ 1152921504606846976 * w := Int.mul_le_mul_of_nonneg_left hp1 (by decide)
    have := Int.ediv_le_ediv (c := w) (a := n * p) (b := 1152921504606846976 * w) hw (by omega)
    rwa [Int.mul_ediv_cancel _ h] at this

/-- A row's sum. -/
def total : List Int → Int
  | [] => 0
  | w :: ws => w + total ws
theorem total_append (a b : List Int) : total (a ++ b) = total a + total b := by
  induction a with
  | nil => simp [total]
  | cons x a ih => simp only [List.cons_append, total, ih]; omega
theorem total_nonneg {l : List Int} (h : ∀ x ∈ l, 0 ≤ x) : 0 ≤ total l := by
  induction l with
  | nil => simp [total]
  | cons x l ih => have := h x (by simp); have := ih (fun y hy => h y (by simp [hy])); simp only [total]; omega
theorem total_le {l : List Int} (m : Int) (h : ∀ x ∈ l, x ≤ m) : total l ≤ l.length * m := by
  induction l with
  | nil => simp [total]
  | cons x l ih =>
    have h1 := h x (by simp); have := ih (fun y hy => h y (by simp [hy])); simp only [total, List.length_cons]
    rw [Int.natCast_add, Int.add_mul]; omega
/-- The parts of n by weights: a the weights ahead, l the last ratio. -/
def parts (n W : Int) : Int → Int → List Int → List Int
  | _, _, [] => []
  | a, l, w :: ws => (n * (a + w) / W - l) :: parts n W (a + w) (n * (a + w) / W) ws
theorem parts_length (n W : Int) (ws : List Int) : ∀ a l, (parts n W a l ws).length = ws.length := by
  induction ws with
  | nil => intro a l; rfl
  | cons w ws ih => intro a l; simp only [parts, List.length_cons, ih]
/-- How n is shared. -/
def share (n : Int) (ws : List Int) : List Int := parts n (total ws) 0 0 ws
theorem rd_lt {l : List Int} {i : Nat} (h : i < l.length) : rd l (i : Int) = l[i] := by
  unfold rd; rw [Int.toNat_natCast]; simp [List.getD, h]
theorem drop_cons {l : List Int} {i : Nat} (h : i < l.length) : l.drop i = l[i] :: l.drop (i + 1) := List.drop_eq_getElem_cons h

theorem Share_l1 (n W : Int) (hn0 : -1152921504606846976 ≤ n) (hn1 : n ≤ 1152921504606846976) (hW : W ≤ 1152921504606846976) (ws : List Int) (hlen : ws.length ≤ 1000) (hws : ∀ x ∈ ws, 0 ≤ x) :
    ∀ (d i : Nat) (a l : Int) (out : List Int) (k : Nat), ws.length - i = d → i ≤ ws.length → out.length = i → 0 ≤ a → a + total (ws.drop i) ≤ W → -1152921504606846976 ≤ l → l ≤ 1152921504606846976 → d + 2 ≤ k →
      unit_Share.l1 k n W a l out ws (ws.length : Int) (i : Int) = some (out ++ parts n W a l (ws.drop i)) := by
  intro d
  induction d with
  | zero =>
    intro i a l out k hd hi ho ha0 ha hl0 hl1 hk
    obtain ⟨k, rfl⟩ : ∃ m, k = m + 1 := ⟨k - 1, by omega⟩
    have : i = ws.length := by omega
    subst this
    simp only [unit_Share.l1]
    rw [if_neg (by omega), List.drop_length]; simp [parts]
  | succ d ih =>
    intro i a l out k hd hi ho ha0 ha hl0 hl1 hk
    obtain ⟨k, rfl⟩ : ∃ m, k = m + 1 := ⟨k - 1, by omega⟩
    have hlt : i < ws.length := by omega
    have hx := hws ws[i] (List.getElem_mem hlt)
    rw [drop_cons hlt] at ha ⊢
    simp only [total] at ha
    have ht := total_nonneg (l := ws.drop (i + 1)) (fun x hx => hws x (List.mem_of_mem_drop hx))
    have hb := ratio_bd (n := n) (p := a + ws[i]) (w := W) hn0 hn1 (by omega) (by omega)
    simp only [unit_Share.l1, rd_lt hlt]
    rw [if_pos (by omega), if_pos (by omega), if_pos (by omega), w64 (x := a + ws[i]) (by omega) (by omega), Ratio_any n _ W hn0 hn1 (by omega) (by omega) hW k (by omega)]
    simp only [Option.bind_some]
    rw [if_pos (by omega), w64 (x := n * (a + ws[i]) / W - l) (by omega) (by omega), w64 (x := (i : Int) + 1) (by omega) (by omega)]
    have := ih (i + 1) (a + ws[i]) (n * (a + ws[i]) / W) (out ++ [n * (a + ws[i]) / W - l]) k (by omega) (by omega) (by simp; omega) (by omega) (by omega) hb.1 hb.2 (by omega)
    rw [show ((i : Int) + 1) = ((i + 1 : Nat) : Int) from by omega, this]
    simp [parts]
theorem Share_l0 (n : Int) (hn0 : -1152921504606846976 ≤ n) (hn1 : n ≤ 1152921504606846976) (ws : List Int) (hlen : ws.length ≤ 1000) (hws : ∀ x ∈ ws, 0 ≤ x ∧ x ≤ 1125899906842624) :
    ∀ (d i : Nat) (k : Nat), ws.length - i = d → i ≤ ws.length → ws.length + d + 4 ≤ k →
      unit_Share.l0 k n ws (total (ws.take i)) 0 0 ws (ws.length : Int) (i : Int) = some (share n ws) := by
  have hT : ∀ i, 0 ≤ total (ws.take i) ∧ total (ws.take i) ≤ 1125899906842624000 := by
    intro i
    have h1 := total_nonneg (l := ws.take i) (fun x hx => (hws x (List.mem_of_mem_take hx)).1)
    have h2 := total_le (l := ws.take i) 1125899906842624 (fun x hx => (hws x (List.mem_of_mem_take hx)).2)
    have h3 : (ws.take i).length ≤ 1000 := by rw [List.length_take]; omega
    exact ⟨h1, by omega⟩
  intro d
  induction d with
  | zero =>
    intro i k hd hi hk
    obtain ⟨k, rfl⟩ : ∃ m, k = m + 1 := ⟨k - 1, by omega⟩
    have : i = ws.length := by omega
    subst this
    have hT' := hT ws.length
    rw [List.take_length] at hT' ⊢
    simp only [unit_Share.l0]
    rw [if_neg (by omega)]
    have := Share_l1 n (total ws) hn0 hn1 (by omega) ws hlen (fun x hx => (hws x hx).1) ws.length 0 0 0 [] k (by omega) (by omega) rfl (by omega) (by simp) (by decide) (by decide) (by omega)
    simp only [List.drop_zero, List.nil_append] at this
    exact this
  | succ d ih =>
    intro i k hd hi hk
    obtain ⟨k, rfl⟩ : ∃ m, k = m + 1 := ⟨k - 1, by omega⟩
    have hlt : i < ws.length := by omega
    have hx := hws ws[i] (List.getElem_mem hlt)
    have hT' := hT i
    simp only [unit_Share.l0, rd_lt hlt]
    rw [if_pos (by omega), if_pos (by omega), if_pos (by omega), if_neg (by omega), if_neg (by omega), w64 (x := total (ws.take i) + ws[i]) (by omega) (by omega), w64 (x := (i : Int) + 1) (by omega) (by omega)]
    have := ih (i + 1) k (by omega) (by omega) (by omega)
    rw [List.take_succ_eq_append_getElem hlt, total_append] at this
    simp only [total, Int.add_zero] at this
    rw [show ((i : Int) + 1) = ((i + 1 : Nat) : Int) from by omega]
    exact this
/-- Share, where its arguments may be. -/
theorem Share_eq (n : Int) (hn0 : -1152921504606846976 ≤ n) (hn1 : n ≤ 1152921504606846976) (ws : List Int) (hlen : ws.length ≤ 1000) (hws : ∀ x ∈ ws, 0 ≤ x ∧ x ≤ 1125899906842624) (k : Nat) (hk : 2 * ws.length + 5 ≤ k) :
    unit_Share.f k n ws = some (share n ws) := by
  obtain ⟨k, rfl⟩ : ∃ m, k = m + 1 := ⟨k - 1, by omega⟩
  unfold unit_Share.f
  rw [if_neg (by omega), if_neg (by omega), decide_eq_false (by omega)]
  simp only [unit_Share.j0]
  rw [if_neg (by simp)]
  exact Share_l0 n hn0 hn1 ws hlen hws ws.length 0 k (by omega) (by omega) (by omega)

/-- A sum, held. -/
def sumHeld : Int → List Int → Int
  | s, [] => s
  | s, x :: l => sumHeld (held (s + held x 1073741824) 1073741824) l
theorem Add_l0 (l : List Int) (hlen : l.length ≤ 1000000000) : ∀ (d i : Nat) (s : Int) (k : Nat), l.length - i = d → i ≤ l.length → -1073741824 ≤ s → s ≤ 1073741824 → d + 1 ≤ k →
    unit_Add.l0 k s l (l.length : Int) (i : Int) = some (sumHeld s (l.drop i)) := by
  intro d
  induction d with
  | zero =>
    intro i s k hd hi h0 h1 hk
    obtain ⟨k, rfl⟩ : ∃ m, k = m + 1 := ⟨k - 1, by omega⟩
    have : i = l.length := by omega
    subst this
    simp only [unit_Add.l0]
    rw [if_neg (by omega), List.drop_length]; rfl
  | succ d ih =>
    intro i s k hd hi h0 h1 hk
    obtain ⟨k, rfl⟩ : ∃ m, k = m + 1 := ⟨k - 1, by omega⟩
    have hlt : i < l.length := by omega
    have ⟨b0, b1⟩ := held_bd (n := l[i]) (m := 1073741824) (by decide)
    have ⟨c0, c1⟩ := held_bd (n := s + held l[i] 1073741824) (m := 1073741824) (by decide)
    simp only [unit_Add.l0, rd_lt hlt, Hold_eq, Option.bind_some]
    rw [if_pos (by omega), if_pos (by omega), if_pos (by omega), w64 (x := s + held l[i] 1073741824) (by omega) (by omega), w64 (x := (i : Int) + 1) (by omega) (by omega), drop_cons hlt]
    have := ih (i + 1) (held (s + held l[i] 1073741824) 1073741824) k (by omega) (by omega) c0 c1 (by omega)
    rw [show ((i : Int) + 1) = ((i + 1 : Nat) : Int) from by omega, this]; rfl
theorem Add_eq (l : List Int) (hlen : l.length ≤ 1000000000) (k : Nat) (hk : l.length + 1 ≤ k) : unit_Add.f k l = some (sumHeld 0 l) := by
  unfold unit_Add.f
  exact Add_l0 l hlen l.length 0 0 k (by omega) (by omega) (by decide) (by decide) hk
end Go.Proofs.Ytlnhhamfmnjapaa.PUnitRounds.U
