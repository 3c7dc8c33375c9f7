/- coll.Lines, as printed for the law CollOrder, in plain words; what the document fixes ('awake'). -/
import Derived.Test.YtlcghlcpngafgaaPCollOrderx
import Derived.Test.YtlcghlcpngafgaaOrdP
namespace Go.Proofs.Ytlcghlcpngafgaa.PCollOrder.U
open Go.RowKit Go.Proofs.YtlcghlcpngafgaaW.PrintWords Go.Proofs.YtlcghlcpngafgaaW.PrintLast Go.Proofs.YtlcghlcpngafgaaW.PrintMore
set_option linter.unusedVariables false

theorem w64 {x : Int} (h0 : -9223372036854775808 ≤ x) (h1 : x < 9223372036854775808) : wrap64 x = x := by unfold wrap64; omega
theorem rd_nat (l : List Int) (i : Nat) : rd l (i : Int) = l.getD i 0 := by simp [rd]
theorem w64s {i : Nat} (h : i < 1000000) : wrap64 ((i : Int) + 1) = ((i + 1 : Nat) : Int) := by rw [w64 (by omega) (by omega)]; omega

/-- The lines from place i on, the line at hand beginning at f with the sum so far; m: how many items are left. -/
def goL (l : List Int) (inner : Int) (wrap : Bool) : Nat → Nat → Nat → Int → List (Nat × Nat)
  | 0, f, _, _ => if 0 < l.length then [(f, l.length)] else []
  | m + 1, f, i, sum => if wrap = true ∧ f < i ∧ inner < sum + l.getD i 0 then (f, i) :: goL l inner wrap m i (i + 1) (l.getD i 0) else goL l inner wrap m f (i + 1) (sum + l.getD i 0)
def toS (p : Nat × Nat) : S25 := ⟨p.1, p.2⟩

theorem getD_bd {l : List Int} {M : Int} (h0 : 0 ≤ M) (hb : ∀ x ∈ l, -M ≤ x ∧ x ≤ M) (i : Nat) : -M ≤ l.getD i 0 ∧ l.getD i 0 ≤ M := by
  by_cases h : i < l.length
  · have := hb (l.getD i 0) (by simp [List.getD, List.getElem?_eq_getElem h])
    exact this
  · have : l.getD i 0 = 0 := by simp [List.getD, List.getElem?_eq_none (Nat.le_of_not_lt h)]
    omega

theorem lines_l0 (l : List Int) (inner : Int) (wrap : Bool) (hl : l.length ≤ 100) (hb : ∀ x ∈ l, -1099511627776 ≤ x ∧ x ≤ 1099511627776) : ∀ (m i f : Nat) (sum : Int) (acc : List S25) (k : Nat), l.length = i + m → f ≤ i → -((i : Int) * 1099511627776) ≤ sum → sum ≤ (i : Int) * 1099511627776 → acc.length ≤ i →
    coll_Lines.l0 (k + 1 + m) l inner wrap acc sum f l l.length i = some (acc ++ (goL l inner wrap m f i sum).map toS) := by
  intro m
  induction m with
  | zero =>
    intro i f sum acc k h1 h2 h3 h4 h5
    rw [Nat.add_zero, coll_Lines.l0, if_neg (by omega)]
    by_cases h : 0 < l.length
    · rw [if_pos (by omega), if_pos (by omega)]; simp [goL, h, toS]
    · rw [if_neg (by omega)]; simp [goL, h]
  | succ m ih =>
    intro i f sum acc k h1 h2 h3 h4 h5
    have hb' := getD_bd (by decide) hb i
    have ih1 := fun f sum acc => ih (i + 1) f sum acc k (by omega)
    rw [show k + 1 + (m + 1) = (k + 1 + m) + 1 from by omega]
    generalize k + 1 + m = kk at *
    rw [coll_Lines.l0, if_pos (by omega), if_pos (by omega), if_pos (by omega), rd_nat, w64s (by omega), w64 (x := sum + l.getD i 0) (by omega) (by omega), w64 (x := 0 + l.getD i 0) (by omega) (by omega), Int.zero_add, goL]
    have e2 := ih1 f (sum + l.getD i 0) acc (by omega) (by omega) (by omega) (by omega)
    by_cases hw : wrap = true
    · rw [if_pos hw]
      by_cases hf : f < i
      · rw [if_pos (by omega)]
        by_cases hs : inner < sum + l.getD i 0
        · rw [if_pos (by omega), if_pos (by omega), ih1 i (l.getD i 0) _ (by omega) (by omega) (by omega) (by simp; omega), if_pos ⟨hw, hf, hs⟩]
          simp [toS]
        · rw [if_neg (by omega), e2, if_neg (fun h => hs h.2.2)]
      · rw [if_neg (by omega), e2, if_neg (fun h => hf h.2.1)]
    · rw [if_neg hw, e2, if_neg (fun h => hw h.1)]

theorem lines_f (l : List Int) (inner : Int) (wrap : Bool) (hl : l.length ≤ 100) (hb : ∀ x ∈ l, -1099511627776 ≤ x ∧ x ≤ 1099511627776) (k : Nat) (hk : l.length + 1 ≤ k) : coll_Lines.f k l inner wrap = some ((goL l inner wrap l.length 0 0 0).map toS) := by
  obtain ⟨q, rfl⟩ : ∃ q, k = q + 1 + l.length := ⟨k - 1 - l.length, by omega⟩
  unfold coll_Lines.f
  have := lines_l0 l inner wrap hl hb l.length 0 0 0 [] q (by omega) (by omega) (by omega) (by omega) (by simp)
  simpa using this

open Go.Sort in
theorem order_awake (k : Nat) : coll_OrderA.f k [2, -1, 2, 0] = some [1, 3, 0, 2] := by
  have e : sortedF [2, -1, 2, 0] 3 = #[1, 3, 0, 2] := by
    unfold sortedF Sort.insertionSort
    rw [insOuter, if_pos (by decide), insOuter, if_pos (by decide), insOuter, if_pos (by decide), insOuter, if_neg (by decide)]
    kernel_rfl
  unfold coll_OrderA.f ordI
  rw [if_pos (by decide), if_pos (by decide)]
  show some (((sortedF [2, -1, 2, 0] 3).toList).map _) = _
  rw [e]
  rfl
theorem awake_true (k : Nat) (hk : 30 ≤ k) : quoinlaw17_awake.f k = some true :=
  at_rounds (g := fun k => quoinlaw17_awake.f k) (fun k => quoinlaw17_awake.mono k) hk (by
    show quoinlaw17_awake.f 30 = some true
    unfold quoinlaw17_awake.f
    rw [order_awake]
    kernel_rfl)
/-- A mask of the low i bits of an int64. -/
theorem and_mask (x : Int) (i : Nat) (hi : i ≤ 62) : Go.bits .and .i64 x (2 ^ i - 1) = x % 2 ^ i := by
  have hp : (0 : Int) < 2 ^ i := Int.pow_pos (by decide)
  have hpn : 0 < 2 ^ i := Nat.two_pow_pos i
  have hle : (2 : Int) ^ i ≤ 2 ^ 62 := by
    have : (2 : Nat) ^ i ≤ 2 ^ 62 := Nat.pow_le_pow_right (by decide) hi
    exact_mod_cast this
  have hle' : (2 : Nat) ^ i ≤ 2 ^ 62 := Nat.pow_le_pow_right (by decide) hi
  have hm : (BitVec.ofInt 64 ((2 : Int) ^ i - 1)).toNat = 2 ^ i - 1 := by
    rw [BitVec.toNat_ofInt]
    have e : ((2 : Int) ^ i - 1) = ((2 ^ i - 1 : Nat) : Int) := by rw [Int.natCast_sub hpn]; simp
    rw [e]; omega
  have hx : (BitVec.ofInt 64 x).toNat = (x % 18446744073709551616).toNat := by rw [BitVec.toNat_ofInt]; rfl
  have h1 : (BitVec.ofInt 64 x &&& BitVec.ofInt 64 ((2 : Int) ^ i - 1)).toNat = (x % 18446744073709551616).toNat % 2 ^ i := by
    rw [BitVec.toNat_and, hx, hm, Nat.and_two_pow_sub_one_eq_mod]
  have h2 : (((x % 18446744073709551616).toNat % 2 ^ i : Nat) : Int) = x % 2 ^ i := by
    rw [Int.natCast_emod, Int.toNat_of_nonneg (Int.emod_nonneg _ (by decide))]
    have : ((2 ^ i : Nat) : Int) = (2 : Int) ^ i := by simp
    rw [this]
    exact Int.emod_emod_of_dvd x (by
      have : (18446744073709551616 : Int) = 2 ^ i * 2 ^ (64 - i) := by rw [← Int.pow_add, show i + (64 - i) = 64 from by omega]; rfl
      rw [this]; exact Int.dvd_mul_right _ _)
  show IntKind.i64.wrap (((BitVec.ofInt 64 x &&& BitVec.ofInt 64 ((2 : Int) ^ i - 1)).toNat : Nat) : Int) = _
  rw [h1, h2, IntKind.wrap_i64]
  have a := Int.emod_nonneg x (b := 2 ^ i) (by omega)
  have b := Int.emod_lt_of_pos x hp
  generalize x % 2 ^ i = z at *
  omega
theorem and255 (x : Int) : Go.bits .and .i64 x 255 = x % 256 := and_mask x 8 (by decide)
theorem and63 (x : Int) : Go.bits .and .i64 x 63 = x % 64 := and_mask x 6 (by decide)
theorem and4095 (x : Int) : Go.bits .and .i64 x 4095 = x % 4096 := and_mask x 12 (by decide)
end Go.Proofs.Ytlcghlcpngafgaa.PCollOrder.U
