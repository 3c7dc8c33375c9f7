/- Plain lemmas on unit.Share as it was printed: what the parts of a number are; masks. No Go in sight. -/
import Derived.Test.YtlcghlcpngafgaaPFreex
namespace Go.Proofs.Ytlcghlcpngafgaa.PFree.U
open Go.RowKit Go.Proofs.YtlcghlcpngafgaaW.PrintWords Go.Proofs.YtlcghlcpngafgaaW.PrintLast Go.Proofs.YtlcghlcpngafgaaW.PrintMore
set_option linter.unusedVariables false
set_option linter.unusedSimpArgs false

theorem w64 {x : Int} (h0 : -9223372036854775808 ≤ x) (h1 : x < 9223372036854775808) : wrap64 x = x := by unfold wrap64; omega
theorem u64w {x : Int} (h0 : 0 ≤ x) (h1 : x < 18446744073709551616) : IntKind.u64.wrap x = x := by
  simp [IntKind.wrap, IntKind.bits, IntKind.signed]; omega
theorem i64_of_wf {x : Int} (h : (Lit.int .i64 x).wf = true) : -9223372036854775808 ≤ x ∧ x ≤ 9223372036854775807 := by
  simp [Lit.wf, IntKind.min, IntKind.max, IntKind.signed, IntKind.bits] at h
  exact ⟨by omega, by omega⟩


theorem mul_bd {a b A B : Int} (ha0 : -A ≤ a) (ha1 : a ≤ A) (hb0 : -B ≤ b) (hb1 : b ≤ B) : -(A * B) ≤ a * b ∧ a * b ≤ A * B := by
  have hA : 0 ≤ A := by omega
  have hB : 0 ≤ B := by omega
  have k : (a * b).natAbs ≤ (A * B).natAbs := by
    rw [Int.natAbs_mul, Int.natAbs_mul]
    exact Nat.mul_le_mul (by omega) (by omega)
  have : 0 ≤ A * B := Int.mul_nonneg hA hB
  omega
/-- Ratio, where its arguments may be. -/
theorem Ratio_eq (n p w : Int) (hn0 : -1152921504606846976 ≤ n) (hn1 : n ≤ 1152921504606846976) (hp0 : 0 ≤ p) (hp1 : p ≤ w) (hw0 : 1 ≤ w) (hw1 : w ≤ 1152921504606846976) (k : Nat) (hk : 1 ≤ k) :
    unit_Ratio.f k n p w = some (n * p / w) := by
  obtain ⟨k, rfl⟩ : ∃ m, k = m + 1 := ⟨k - 1, by omega⟩
  unfold unit_Ratio.f
  rw [if_neg (by omega), if_neg (by omega), if_neg (by omega), if_neg (by omega), if_neg (by omega)]
  simp only [unit_Ratio.j0]
  rw [if_neg (by simp; omega)]
  obtain ⟨a, ha⟩ : ∃ a, a = mx n (wrap64 (-n)) := ⟨_, rfl⟩
  rw [w64 (by omega) (by omega)] at ha ⊢
  rw [← ha]
  have ha0 : 0 ≤ a := by rw [ha]; unfold mx; split <;> omega
  have ha1 : a ≤ 1152921504606846976 := by rw [ha]; unfold mx; split <;> omega
  rw [u64w ha0 (by omega), u64w hp0 (by omega), u64w (x := w) (by omega) (by omega)]
  unfold bits_Mul64.f
  rw [if_pos ⟨ha0, by omega, hp0, by omega⟩]
  simp only [Option.bind_some]
  have hap0 : 0 ≤ a * p := Int.mul_nonneg ha0 hp0
  have hap1 : a * p ≤ 1152921504606846976 * w := by
    have h1 : a * p ≤ a * w := Int.mul_le_mul_of_nonneg_left hp1 ha0
    have h2 : a * w ≤ 1152921504606846976 * w := Int.mul_le_mul_of_nonneg_right ha1 (by omega)
    omega
  have hap2 : a * p ≤ a * w := Int.mul_le_mul_of_nonneg_left hp1 ha0
  obtain ⟨z, hz⟩ : ∃ z, z = a * p := ⟨_, rfl⟩
  rw [← hz] at hap0 hap1 hap2 ⊢
  unfold bits_Div64.f
  rw [if_pos ⟨by omega, by omega, by omega, by omega, by omega⟩]
  simp only [Option.bind_some]
  rw [show z / 18446744073709551616 * 18446744073709551616 + z % 18446744073709551616 = z from by omega]
  have q0 : 0 ≤ z / w := Int.ediv_nonneg hap0 (by omega)
  have q1 : z / w ≤ a := by
    have := Int.ediv_le_ediv (c := w) (by omega) hap2
    rwa [Int.mul_ediv_cancel _ (by omega)] at this
  have r0 := Int.emod_nonneg z (b := w) (by omega)
  have r1 := Int.emod_lt_of_pos z (b := w) (by omega)
  have e := Int.mul_ediv_add_emod z w
  rw [w64 (x := z / w) (by omega) (by omega)]
  by_cases hs : n ≥ 0
  · have : a = n := by rw [ha]; unfold mx; rw [if_neg (by omega)]
    rw [if_pos hs, hz, this]
  · have hna : n = -a := by rw [ha]; unfold mx; rw [if_pos (by omega)]; omega
    have hnp : n * p = -z := by rw [hna, hz, Int.neg_mul]
    rw [if_neg hs, hnp]
    by_cases hr : z % w > 0
    · rw [if_pos hr, w64 (x := z / w + 1) (by omega) (by omega), w64 (by omega) (by omega)]
      congr 1; symm
      exact ((Int.ediv_emod_unique (r := w - z % w) (q := -(z / w + 1)) (by omega)).2 ⟨by rw [Int.mul_neg, Int.mul_add]; omega, by omega, by omega⟩).1
    · rw [if_neg hr, w64 (by omega) (by omega)]
      congr 1; symm
      exact ((Int.ediv_emod_unique (r := 0) (q := -(z / w)) (by omega)).2 ⟨by rw [Int.mul_neg]; omega, by omega, by omega⟩).1
/-- Ratio, where its arguments may not be. -/
theorem Ratio_no (n p w : Int) (h : w < 1 ∨ w > 1152921504606846976 ∨ p < 0 ∨ p > w ∨ n < -1152921504606846976 ∨ n > 1152921504606846976) (k : Nat) (hk : 1 ≤ k) : unit_Ratio.f k n p w = some 0 := by
  obtain ⟨k, rfl⟩ : ∃ m, k = m + 1 := ⟨k - 1, by omega⟩
  have hj : unit_Ratio.j0 (k + 1) n p w true = some 0 := by simp only [unit_Ratio.j0]; rfl
  unfold unit_Ratio.f
  by_cases h1 : w < 1
  · rw [if_pos h1, hj]
  rw [if_neg h1]
  by_cases h2 : w > 1152921504606846976
  · rw [if_pos h2, hj]
  rw [if_neg h2]
  by_cases h3 : p < 0
  · rw [if_pos h3, hj]
  rw [if_neg h3]
  by_cases h4 : p > w
  · rw [if_pos h4, hj]
  rw [if_neg h4]
  by_cases h5 : n < -1152921504606846976
  · rw [if_pos h5, hj]
  rw [if_neg h5, decide_eq_true (by omega), hj]
/-- Ratio, of none, too. -/
theorem Ratio_any (n p w : Int) (hn0 : -1152921504606846976 ≤ n) (hn1 : n ≤ 1152921504606846976) (hp0 : 0 ≤ p) (hp1 : p ≤ w) (hw1 : w ≤ 1152921504606846976) (k : Nat) (hk : 1 ≤ k) :
    unit_Ratio.f k n p w = some (n * p / w) := by
  by_cases h : 1 ≤ w
  · exact Ratio_eq n p w hn0 hn1 hp0 hp1 h hw1 k hk
  · obtain rfl : w = 0 := by omega
    rw [Ratio_no n p 0 (Or.inl (by decide)) k hk, Int.ediv_zero]
theorem ratio_bd {n p w : Int} (hn0 : -1152921504606846976 ≤ n) (hn1 : n ≤ 1152921504606846976) (hp0 : 0 ≤ p) (hp1 : p ≤ w) : -1152921504606846976 ≤ n * p / w ∧ n * p / w ≤ 1152921504606846976 := by
  by_cases h : w = 0
  · subst h; rw [Int.ediv_zero]; omega
  have hw : 0 < w := by omega
  constructor
  · apply (Int.le_ediv_iff_mul_le hw).2
    have h1 : (-1152921504606846976) * w ≤ (-1152921504606846976) * p := Int.mul_le_mul_of_nonpos_left (by decide) hp1
    have h2 : (-1152921504606846976) * p ≤ n * p := Int.mul_le_mul_of_nonneg_right hn0 hp0
    omega
  · have h1 : n * p ≤ 1152921504606846976 * p := Int.mul_le_mul_of_nonneg_right hn1 hp0
    have h2 : 1152921504606846976 * p ≤ 1152921504606846976 * w := Int.mul_le_mul_of_nonneg_left hp1 (by decide)
    have := Int.ediv_le_ediv (c := w) (a := n * p) (b := 1152921504606846976 * w) hw (by omega)
    rwa [Int.mul_ediv_cancel _ h] at this

/-- A row's sum. -/
def total : List Int → Int
  | [] => 0
  | w :: ws => w + total ws
theorem total_append (a b : List Int) : total (a ++ b) = total a + total b := by
  induction a with
  | nil => simp [total]
  | cons x a ih => simp only [List.cons_append, total, ih]; omega
theorem total_nonneg {l : List Int} (h : ∀ x ∈ l, 0 ≤ x) : 0 ≤ total l := by
  induction l with
  | nil => simp [total]
  | cons x l ih => have := h x (by simp); have := ih (fun y hy => h y (by simp [hy])); simp only [total]; omega
theorem total_le {l : List Int} (m : Int) (h : ∀ x ∈ l, x ≤ m) : total l ≤ l.length * m := by
  induction l with
  | nil => simp [total]
  | cons x l ih =>
    have h1 := h x (by simp); have := ih (fun y hy => h y (by simp [hy])); simp only [total, List.length_cons]
    rw [Int.natCast_add, Int.add_mul]; omega
/-- The parts of n by weights: a the weights ahead, l the last ratio. -/
def parts (n W : Int) : Int → Int → List Int → List Int
  | _, _, [] => []
  | a, l, w :: ws => (n * (a + w) / W - l) :: parts n W (a + w) (n * (a + w) / W) ws
theorem parts_length (n W : Int) (ws : List Int) : ∀ a l, (parts n W a l ws).length = ws.length := by
  induction ws with
  | nil => intro a l; rfl
  | cons w ws ih => intro a l; simp only [parts, List.length_cons, ih]
/-- How n is shared. -/
def share (n : Int) (ws : List Int) : List Int := parts n (total ws) 0 0 ws
theorem rd_lt {l : List Int} {i : Nat} (h : i < l.length) : rd l (i : Int) = l[i] := by
  unfold rd; rw [Int.toNat_natCast]; simp [List.getD, h]
theorem drop_cons {l : List Int} {i : Nat} (h : i < l.length) : l.drop i = l[i] :: l.drop (i + 1) := List.drop_eq_getElem_cons h

theorem Share_l1 (n W : Int) (hn0 : -1152921504606846976 ≤ n) (hn1 : n ≤ 1152921504606846976) (hW : W ≤ 1152921504606846976) (ws : List Int) (hlen : ws.length ≤ 1000) (hws : ∀ x ∈ ws, 0 ≤ x) :
    ∀ (d i : Nat) (a l : Int) (out : List Int) (k : Nat), ws.length - i = d → i ≤ ws.length → out.length = i → 0 ≤ a → a + total (ws.drop i) ≤ W → -1152921504606846976 ≤ l → l ≤ 1152921504606846976 → d + 2 ≤ k →
      unit_Share.l1 k n W a l out ws (ws.length : Int) (i : Int) = some (out ++ parts n W a l (ws.drop i)) := by
  intro d
  induction d with
  | zero =>
    intro i a l out k hd hi ho ha0 ha hl0 hl1 hk
    obtain ⟨k, rfl⟩ : ∃ m, k = m + 1 := ⟨k - 1, by omega⟩
    have : i = ws.length := by omega
    subst this
    simp only [unit_Share.l1]
    rw [if_neg (by omega), List.drop_length]; simp [parts]
  | succ d ih =>
    intro i a l out k hd hi ho ha0 ha hl0 hl1 hk
    obtain ⟨k, rfl⟩ : ∃ m, k = m + 1 := ⟨k - 1, by omega⟩
    have hlt : i < ws.length := by omega
    have hx := hws ws[i] (List.getElem_mem hlt)
    rw [drop_cons hlt] at ha ⊢
    simp only [total] at ha
    have ht := total_nonneg (l := ws.drop (i + 1)) (fun x hx => hws x (List.mem_of_mem_drop hx))
    have hb := ratio_bd (n := n) (p := a + ws[i]) (w := W) hn0 hn1 (by omega) (by omega)
    simp only [unit_Share.l1, rd_lt hlt]
    rw [if_pos (by omega), if_pos (by omega), if_pos (by omega), w64 (x := a + ws[i]) (by omega) (by omega), Ratio_any n _ W hn0 hn1 (by omega) (by omega) hW k (by omega)]
    simp only [Option.bind_some]
    rw [if_pos (by omega), w64 (x := n * (a + ws[i]) / W - l) (by omega) (by omega), w64 (x := (i : Int) + 1) (by omega) (by omega)]
    have := ih (i + 1) (a + ws[i]) (n * (a + ws[i]) / W) (out ++ [n * (a + ws[i]) / W - l]) k (by omega) (by omega) (by simp; omega) (by omega) (by omega) hb.1 hb.2 (by omega)
    rw [show ((i : Int) + 1) = ((i + 1 : Nat) : Int) from by omega, this]
    simp [parts]
theorem Share_l0 (n : Int) (hn0 : -1152921504606846976 ≤ n) (hn1 : n ≤ 1152921504606846976) (ws : List Int) (hlen : ws.length ≤ 1000) (hws : ∀ x ∈ ws, 0 ≤ x ∧ x ≤ 1125899906842624) :
    ∀ (d i : Nat) (k : Nat), ws.length - i = d → i ≤ ws.length → ws.length + d + 4 ≤ k →
      unit_Share.l0 k n ws (total (ws.take i)) 0 0 ws (ws.length : Int) (i : Int) = some (share n ws) := by
  have hT : ∀ i, 0 ≤ total (ws.take i) ∧ total (ws.take i) ≤ 1125899906842624000 := by
    intro i
    have h1 := total_nonneg (l := ws.take i) (fun x hx => (hws x (List.mem_of_mem_take hx)).1)
    have h2 := total_le (l := ws.take i) 1125899906842624 (fun x hx => (hws x (List.mem_of_mem_take hx)).2)
    have h3 : (ws.take i).length ≤ 1000 := by rw [List.length_take]; omega
    exact ⟨h1, by omega⟩
  intro d
  induction d with
  | zero =>
    intro i k hd hi hk
    obtain ⟨k, rfl⟩ : ∃ m, k = m + 1 := ⟨k - 1, by omega⟩
    have : i = ws.length := by omega
    subst this
    have hT' := hT ws.length
    rw [List.take_length] at hT' ⊢
    simp only [unit_Share.l0]
    rw [if_neg (by omega)]
    have := Share_l1 n (total ws) hn0 hn1 (by omega) ws hlen (fun x hx => (hws x hx).1) ws.length 0 0 0 [] k (by omega) (by omega) rfl (by omega) (by simp) (by decide) (by decide) (by omega)
    simp only [List.drop_zero, List.nil_append] at this
    exact this
  | succ d ih =>
    intro i k hd hi hk
    obtain ⟨k, rfl⟩ : ∃ m, k = m + 1 := ⟨k - 1, by omega⟩
    have hlt : i < ws.length := by omega
    have hx := hws ws[i] (List.getElem_mem hlt)
    have hT' := hT i
    simp only [unit_Share.l0, rd_lt hlt]
    rw [if_pos (by omega), if_pos (by omega), if_pos (by omega), if_neg (by omega), if_neg (by omega), w64 (x := total (ws.take i) + ws[i]) (by omega) (by omega), w64 (x := (i : Int) + 1) (by omega) (by omega)]
    have := ih (i + 1) k (by omega) (by omega) (by omega)
    rw [List.take_succ_eq_append_getElem hlt, total_append] at this
    simp only [total, Int.add_zero] at this
    rw [show ((i : Int) + 1) = ((i + 1 : Nat) : Int) from by omega]
    exact this
/-- Share, where its arguments may be. -/
theorem Share_eq (n : Int) (hn0 : -1152921504606846976 ≤ n) (hn1 : n ≤ 1152921504606846976) (ws : List Int) (hlen : ws.length ≤ 1000) (hws : ∀ x ∈ ws, 0 ≤ x ∧ x ≤ 1125899906842624) (k : Nat) (hk : 2 * ws.length + 5 ≤ k) :
    unit_Share.f k n ws = some (share n ws) := by
  obtain ⟨k, rfl⟩ : ∃ m, k = m + 1 := ⟨k - 1, by omega⟩
  unfold unit_Share.f
  rw [if_neg (by omega), if_neg (by omega), decide_eq_false (by omega)]
  simp only [unit_Share.j0]
  rw [if_neg (by simp)]
  exact Share_l0 n hn0 hn1 ws hlen hws ws.length 0 k (by omega) (by omega) (by omega)

/-- A sum, held. -/
theorem parts_get (n W : Int) (ws : List Int) : ∀ (a : Int) (i : Nat) (h : i < (parts n W a (n * a / W) ws).length),
    (parts n W a (n * a / W) ws)[i] = n * (a + total (ws.take (i + 1))) / W - n * (a + total (ws.take i)) / W := by
  induction ws with
  | nil => intro a i h; simp [parts] at h
  | cons w ws ih =>
    intro a i h
    simp only [parts]
    cases i with
    | zero => simp [total]
    | succ i =>
      simp only [List.getElem_cons_succ, List.take_succ_cons, total]
      rw [ih (a + w) i (by simpa [parts] using h)]
      simp only [Int.add_assoc]
theorem share_length (n : Int) (ws : List Int) : (share n ws).length = ws.length := parts_length _ _ _ _ _
theorem share_get (n : Int) (ws : List Int) (i : Nat) (h : i < ws.length) :
    (share n ws)[i]'(by rw [share_length]; exact h) = n * total (ws.take (i + 1)) / total ws - n * total (ws.take i) / total ws := by
  have e0 : n * 0 / total ws = 0 := by rw [Int.mul_zero, Int.zero_ediv]
  have := parts_get n (total ws) ws 0 i (by rw [parts_length]; exact h)
  simp only [e0, Int.zero_add] at this
  exact this
theorem total_take_succ (ws : List Int) (i : Nat) (h : i < ws.length) : total (ws.take (i + 1)) = total (ws.take i) + ws[i] := by
  rw [List.take_succ_eq_append_getElem h, total_append]; simp [total]
theorem total_take_le {ws : List Int} (hws : ∀ x ∈ ws, 0 ≤ x) (i : Nat) : 0 ≤ total (ws.take i) ∧ total (ws.take i) ≤ total ws := by
  have h1 := total_nonneg (l := ws.take i) (fun x hx => hws x (List.mem_of_mem_take hx))
  have h2 := total_nonneg (l := ws.drop i) (fun x hx => hws x (List.mem_of_mem_drop hx))
  have h3 : total ws = total (ws.take i) + total (ws.drop i) := by rw [← total_append, List.take_append_drop]
  omega
/-- A sum's floor is the floors' sum, or one more. -/
theorem floor_add (a b w : Int) (hw : 0 < w) : a / w + b / w ≤ (a + b) / w ∧ (a + b) / w ≤ a / w + b / w + 1 := by
  have e1 := Int.mul_ediv_add_emod a w
  have e2 := Int.mul_ediv_add_emod b w
  have e3 := Int.mul_ediv_add_emod (a + b) w
  have r1 := Int.emod_nonneg a (b := w) (by omega)
  have r2 := Int.emod_nonneg b (b := w) (by omega)
  have r3 := Int.emod_nonneg (a + b) (b := w) (by omega)
  have s1 := Int.emod_lt_of_pos a hw
  have s2 := Int.emod_lt_of_pos b hw
  have s3 := Int.emod_lt_of_pos (a + b) hw
  constructor
  · apply (Int.le_ediv_iff_mul_le hw).2
    rw [Int.add_mul, Int.mul_comm, Int.mul_comm (b / w)]; omega
  · have : (a + b) / w < a / w + b / w + 2 := by
      apply Int.ediv_lt_of_lt_mul hw
      rw [Int.add_mul, Int.add_mul, Int.mul_comm, Int.mul_comm (b / w)]; omega
    omega
/-- A mask of the low i bits of an int64. -/
theorem and_mask (x : Int) (i : Nat) (hi : i ≤ 62) : Go.bits .and .i64 x (2 ^ i - 1) = x % 2 ^ i := by
  have hp : (0 : Int) < 2 ^ i := Int.pow_pos (by decide)
  have hpn : 0 < 2 ^ i := Nat.two_pow_pos i
  have hle : (2 : Int) ^ i ≤ 2 ^ 62 := by
    have : (2 : Nat) ^ i ≤ 2 ^ 62 := Nat.pow_le_pow_right (by decide) hi
    exact_mod_cast this
  have hle' : (2 : Nat) ^ i ≤ 2 ^ 62 := Nat.pow_le_pow_right (by decide) hi
  have hm : (BitVec.ofInt 64 ((2 : Int) ^ i - 1)).toNat = 2 ^ i - 1 := by
    rw [BitVec.toNat_ofInt]
    have e : ((2 : Int) ^ i - 1) = ((2 ^ i - 1 : Nat) : Int) := by rw [Int.natCast_sub hpn]; simp
    rw [e]; omega
  have hx : (BitVec.ofInt 64 x).toNat = (x % 18446744073709551616).toNat := by rw [BitVec.toNat_ofInt]; rfl
  have h1 : (BitVec.ofInt 64 x &&& BitVec.ofInt 64 ((2 : Int) ^ i - 1)).toNat = (x % 18446744073709551616).toNat % 2 ^ i := by
    rw [BitVec.toNat_and, hx, hm, Nat.and_two_pow_sub_one_eq_mod]
  have h2 : (((x % 18446744073709551616).toNat % 2 ^ i : Nat) : Int) = x % 2 ^ i := by
    rw [Int.natCast_emod, Int.toNat_of_nonneg (Int.emod_nonneg _ (by decide))]
    have : ((2 ^ i : Nat) : Int) = (2 : Int) ^ i := by simp
    rw [this]
    exact Int.emod_emod_of_dvd x (by
      have : (18446744073709551616 : Int) = 2 ^ i * 2 ^ (64 - i) := by rw [← Int.pow_add, show i + (64 - i) = 64 from by omega]; rfl
      rw [this]; exact Int.dvd_mul_right _ _)
  show IntKind.i64.wrap (((BitVec.ofInt 64 x &&& BitVec.ofInt 64 ((2 : Int) ^ i - 1)).toNat : Nat) : Int) = _
  rw [h1, h2, IntKind.wrap_i64]
  have a := Int.emod_nonneg x (b := 2 ^ i) (by omega)
  have b := Int.emod_lt_of_pos x hp
  generalize x % 2 ^ i = z at *
  omega
theorem rd_nat (l : List Int) (i : Nat) : rd l (i : Int) = l.getD i 0 := by simp [rd]
end Go.Proofs.Ytlcghlcpngafgaa.PFree.U

