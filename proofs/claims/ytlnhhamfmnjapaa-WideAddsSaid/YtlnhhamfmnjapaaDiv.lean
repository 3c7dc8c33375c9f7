/- The contract of math/bits.Div64: for hi < y it returns the quotient and the rest of hi * 2^64 + lo by y; memory is as it was. -/
import Derived.Test.YtlnhhamfmnjapaaShelf
import Derived.Test.YtlnhhamfmnjapaaWWords
import Derived.Test.YtlnhhamfmnjapaaDivM
import Derived.WalkKit
import Derived.WalkSpells
import Derived.WalkLawsBesides
import Derived.Outline
import Derived.Lib.Hide
import Derived.Deep.LoopGhost
import Derived.Deep.DeepCutAuto
import Derived.Deep.CutBlock
import Derived.Deep.QuietTactic
import Derived.BigQuiet
namespace Go.Proofs.Ytlnhhamfmnjapaa
open Go.RowKit Go.Proofs.YtlnhhamfmnjapaaW.PrintWords
open Div64M
set_option linter.unusedVariables false

theorem wrap_u64 {x : Int} (h0 : 0 ≤ x) (h1 : x < 18446744073709551616) : IntKind.u64.wrap x = x := by
  simp [IntKind.wrap, IntKind.bits, IntKind.signed]; omega
theorem wrap_prod {q e : Int} (hq0 : 0 ≤ q) (hq : q < 4294967296) (he0 : 0 ≤ e) (he : e < 4294967296) : IntKind.u64.wrap (q * e) = q * e := by
  have h1 : q * e ≤ 4294967295 * 4294967295 := Int.mul_le_mul (by omega) (by omega) he0 (by omega)
  exact wrap_u64 (Int.mul_nonneg hq0 he0) (by omega)

set_option maxHeartbeats 2000000 in
set_option maxRecDepth 100000 in
theorem div_walk (hi lo y : Int) (w : World) (h0 : 0 ≤ hi) (hy : 0 < y) (hy1 : y < 18446744073709551616) (hl0 : 0 ≤ lo) (hl : lo < 18446744073709551616) (h1 : hi < y) (hi0 : (hi == 0) = false)
    (s : Nat) (hs : s ≤ 63) (hb : (64 - (Lib.bitLen y.toNat : Int)) = (s : Int))
    (Y U L d e v1 v0 m0 Q1 R1 Q0 m1 A : Int) (hY : IntKind.u64.wrap (y * 2 ^ s) = Y) (hU : bits .or .u64 (IntKind.u64.wrap (hi * 2 ^ s)) (lo / 2 ^ (64 - s)) = U) (hL : IntKind.u64.wrap (lo * 2 ^ s) = L)
    (hd : Y / 4294967296 = d) (he : bits .and .u64 Y 4294967295 = e) (hv1 : L / 4294967296 = v1) (hv0 : bits .and .u64 L 4294967295 = v0)
    (hd0 : 2147483648 ≤ d) (hd1 : d < 4294967296) (he0 : 0 ≤ e) (he1 : e < 4294967296) (hv10 : 0 ≤ v1) (hv11 : v1 < 4294967296) (hv00 : 0 ≤ v0) (hv01 : v0 < 4294967296) (hU0 : 0 ≤ U) (hU1 : U < 18446744073709551616)
    (hq0 : 0 ≤ U / d) (hq1 : U / d ≤ 4294967297) (hm : IntKind.u64.wrap (U / d * d) = m0) (hm0 : 0 ≤ m0) (hm1 : m0 ≤ U) (hm2 : U - m0 < d) (HD : Hid (Dig U d (d * 4294967296 + e) v1 Q1 (U / d) (U - m0)))
    (HQ1 : Hid (Q1 = (U * 4294967296 + v1) / (d * 4294967296 + e))) (hQ10 : 0 ≤ Q1) (hQ11 : Q1 < 4294967296)
    (hR1 : IntKind.u64.wrap (IntKind.u64.wrap (IntKind.u64.wrap (U * 4294967296) + v1) - IntKind.u64.wrap (Q1 * Y)) = R1)
    (hR0 : 0 ≤ R1) (hR2 : R1 < 18446744073709551616)
    (hr0 : 0 ≤ R1 / d) (hr1 : R1 / d ≤ 4294967297) (hn : IntKind.u64.wrap (R1 / d * d) = m1) (hn0 : 0 ≤ m1) (hn1 : m1 ≤ R1) (hn2 : R1 - m1 < d) (HD0 : Hid (Dig R1 d (d * 4294967296 + e) v0 Q0 (R1 / d) (R1 - m1)))
    (HQ0 : Hid (Q0 = (R1 * 4294967296 + v0) / (d * 4294967296 + e))) (hQ00 : 0 ≤ Q0) (hQ01 : Q0 < 4294967296)
    (hA : IntKind.u64.wrap (IntKind.u64.wrap (IntKind.u64.wrap (R1 * 4294967296) + v0) - IntKind.u64.wrap (Q0 * Y)) = A) (hA0 : 0 ≤ A) (hA1 : A < 18446744073709551616) :
    Calls Try.prog 49 #[.int .u64 hi, .int .u64 lo, .int .u64 y] w fun e w' => e = .returned (.tuple #[.int .u64 (Q1 * 4294967296 + Q0), .int .u64 (A / 2 ^ s)]) ∧ Drawn0 w w' := by
  have z : (y == 0) = false := by simp; omega
  have z1 : decide (y ≤ hi) = false := by simp; omega
  have z3 : (d == 0) = false := by simp; omega
  have HB := Lib.hid hb; clear hb
  go_enter Try.func49, Try.ntmps49
  go_wp2_with fail
  refine (Try.bits_LeadingZeros64 y w (by omega) (by omega)).mono ?_
  rintro e w' ⟨rfl, rfl⟩
  rw [HB.out]
  go_upto_block 0 with fail
  go_cut [15, 16] (fun v15 v16 wc => ∃ r : Int, v15 = .int .u64 Q1 ∧ v16 = .int .u64 r ∧ wc = w')
  case first =>
    go_wp2_with fail
    go_loopg [15, 16] (U / d).toNat (fun gk v15 v16 wc => ∃ q r : Int, v15 = .int .u64 q ∧ v16 = .int .u64 r ∧ Hid (Dig U d (d * 4294967296 + e) v1 Q1 q r) ∧ q.toNat ≤ gk ∧ 0 ≤ q ∧ q ≤ 4294967297 ∧ 0 ≤ r ∧ r < 4294967296 ∧ wc = w')
    case atStart => exact ⟨_, _, rfl, rfl, HD, by omega, by omega, by omega, by omega, by omega, rfl⟩
    case round =>
      obtain ⟨q, r, rfl, rfl, HG, hg, hq0, hq1, hr0, hr1, rfl⟩ := hrel
      have hy0 : 0 < d * 4294967296 + e := by omega
      have hd00 : 0 < d := by omega
      by_cases cA : 4294967296 ≤ q ∨ 4294967296 * r + v1 < q * e
      · have HN := Lib.hid (dig_down hd00 hy0 HQ1.out (by omega) HG.out cA)
        have hl := HN.out.lo
        have hq2 : 1 ≤ q := by omega
        have hq3 : q - 1 ≤ 4294967296 := by omega
        have HE : 4294967296 ≤ r + d → Hid (q - 1 = Q1) := fun h => dig_end hy0 he1 he0 (by omega) HQ1.out HN.out (Or.inr ⟨h, hq3⟩)
        clear hl HG
        by_cases cB : 4294967296 ≤ r + d
        · have HE := HE cB
          have tB : decide (4294967296 ≤ r + d) = true := decide_eq_true cB
          by_cases cC : 4294967296 ≤ q
          · have tC : decide (4294967296 ≤ q) = true := decide_eq_true cC
            clear cA cB cC
            go_wp2
            go_meet
            case rel => exact ⟨_, by rw [HE.out], rfl, rfl⟩
          · have tC : decide (4294967296 ≤ q) = false := decide_eq_false cC
            have cD : 4294967296 * r + v1 < q * e := by omega
            obtain ⟨P, hP⟩ : ∃ P, P = q * e := ⟨_, rfl⟩
            have tP : IntKind.u64.wrap (q * e) = P := by rw [hP]; exact wrap_prod (by omega) (by omega) (by omega) (by omega)
            rw [← hP] at cD
            have tD : decide (4294967296 * r + v1 < P) = true := decide_eq_true cD
            clear cA cB hP
            go_wp2
            go_meet
            case rel => exact ⟨_, by rw [HE.out], rfl, rfl⟩
        · have tB : decide (4294967296 ≤ r + d) = false := decide_eq_false cB
          clear HE
          by_cases cC : 4294967296 ≤ q
          · have tC : decide (4294967296 ≤ q) = true := decide_eq_true cC
            clear cA
            go_wp2
            go_roundg (gk - 1)
            case measure => omega
            case rel => exact ⟨_, _, rfl, rfl, HN, by omega, by omega, by omega, by omega, by omega, rfl⟩
          · have tC : decide (4294967296 ≤ q) = false := decide_eq_false cC
            have cD : 4294967296 * r + v1 < q * e := by omega
            obtain ⟨P, hP⟩ : ∃ P, P = q * e := ⟨_, rfl⟩
            have tP : IntKind.u64.wrap (q * e) = P := by rw [hP]; exact wrap_prod (by omega) (by omega) (by omega) (by omega)
            rw [← hP] at cD
            have tD : decide (4294967296 * r + v1 < P) = true := decide_eq_true cD
            clear cA hP
            go_wp2
            go_roundg (gk - 1)
            case measure => omega
            case rel => exact ⟨_, _, rfl, rfl, HN, by omega, by omega, by omega, by omega, by omega, rfl⟩
      · have cC : ¬ 4294967296 ≤ q := fun h => cA (Or.inl h)
        have cD0 : ¬ 4294967296 * r + v1 < q * e := fun h => cA (Or.inr h)
        have HE : Hid (q = Q1) := dig_end hy0 he1 he0 (by omega) HQ1.out HG.out (Or.inl (by omega))
        have tC : decide (4294967296 ≤ q) = false := decide_eq_false cC
        obtain ⟨P, hP⟩ : ∃ P, P = q * e := ⟨_, rfl⟩
        have tP : IntKind.u64.wrap (q * e) = P := by rw [hP]; exact wrap_prod (by omega) (by omega) (by omega) (by omega)
        rw [← hP] at cD0
        have tD : decide (4294967296 * r + v1 < P) = false := decide_eq_false cD0
        clear cA hP HG
        go_wp2
        go_meet
        case rel => exact ⟨_, by rw [HE.out], rfl, rfl⟩
  case rest =>
    obtain ⟨r, rfl, rfl, rfl⟩ := hcut
    go_upto_block 2 with fail
    go_cut [18, 16] (fun v18 v16 wd => ∃ r : Int, v18 = .int .u64 Q0 ∧ v16 = .int .u64 r ∧ wd = wc)
    case first =>
      go_wp2_with fail
      go_loopg [18, 16] (R1 / d).toNat (fun gk v15 v16 wd => ∃ q r : Int, v15 = .int .u64 q ∧ v16 = .int .u64 r ∧ Hid (Dig R1 d (d * 4294967296 + e) v0 Q0 q r) ∧ q.toNat ≤ gk ∧ 0 ≤ q ∧ q ≤ 4294967297 ∧ 0 ≤ r ∧ r < 4294967296 ∧ wd = wc)
      case atStart => exact ⟨_, _, rfl, rfl, HD0, by omega, by omega, by omega, by omega, by omega, rfl⟩
      case round =>
        obtain ⟨q, r, rfl, rfl, HG, hg, hq0, hq1, hr0, hr1, rfl⟩ := hrel
        have hy0 : 0 < d * 4294967296 + e := by omega
        have hd00 : 0 < d := by omega
        by_cases cA : 4294967296 ≤ q ∨ 4294967296 * r + v0 < q * e
        · have HN := Lib.hid (dig_down hd00 hy0 HQ0.out (by omega) HG.out cA)
          have hl := HN.out.lo
          have hq2 : 1 ≤ q := by omega
          have hq3 : q - 1 ≤ 4294967296 := by omega
          have HE : 4294967296 ≤ r + d → Hid (q - 1 = Q0) := fun h => dig_end hy0 he1 he0 (by omega) HQ0.out HN.out (Or.inr ⟨h, hq3⟩)
          clear hl HG
          by_cases cB : 4294967296 ≤ r + d
          · have HE := HE cB
            have tB : decide (4294967296 ≤ r + d) = true := decide_eq_true cB
            by_cases cC : 4294967296 ≤ q
            · have tC : decide (4294967296 ≤ q) = true := decide_eq_true cC
              clear cA cB cC
              go_wp2
              go_meet
              case rel => exact ⟨_, by rw [HE.out], rfl, rfl⟩
            · have tC : decide (4294967296 ≤ q) = false := decide_eq_false cC
              have cD : 4294967296 * r + v0 < q * e := by omega
              obtain ⟨P, hP⟩ : ∃ P, P = q * e := ⟨_, rfl⟩
              have tP : IntKind.u64.wrap (q * e) = P := by rw [hP]; exact wrap_prod (by omega) (by omega) (by omega) (by omega)
              rw [← hP] at cD
              have tD : decide (4294967296 * r + v0 < P) = true := decide_eq_true cD
              clear cA cB hP
              go_wp2
              go_meet
              case rel => exact ⟨_, by rw [HE.out], rfl, rfl⟩
          · have tB : decide (4294967296 ≤ r + d) = false := decide_eq_false cB
            clear HE
            by_cases cC : 4294967296 ≤ q
            · have tC : decide (4294967296 ≤ q) = true := decide_eq_true cC
              clear cA
              go_wp2
              go_roundg (gk - 1)
              case measure => omega
              case rel => exact ⟨_, _, rfl, rfl, HN, by omega, by omega, by omega, by omega, by omega, rfl⟩
            · have tC : decide (4294967296 ≤ q) = false := decide_eq_false cC
              have cD : 4294967296 * r + v0 < q * e := by omega
              obtain ⟨P, hP⟩ : ∃ P, P = q * e := ⟨_, rfl⟩
              have tP : IntKind.u64.wrap (q * e) = P := by rw [hP]; exact wrap_prod (by omega) (by omega) (by omega) (by omega)
              rw [← hP] at cD
              have tD : decide (4294967296 * r + v0 < P) = true := decide_eq_true cD
              clear cA hP
              go_wp2
              go_roundg (gk - 1)
              case measure => omega
              case rel => exact ⟨_, _, rfl, rfl, HN, by omega, by omega, by omega, by omega, by omega, rfl⟩
        · have cC : ¬ 4294967296 ≤ q := fun h => cA (Or.inl h)
          have cD0 : ¬ 4294967296 * r + v0 < q * e := fun h => cA (Or.inr h)
          have HE : Hid (q = Q0) := dig_end hy0 he1 he0 (by omega) HQ0.out HG.out (Or.inl (by omega))
          have tC : decide (4294967296 ≤ q) = false := decide_eq_false cC
          obtain ⟨P, hP⟩ : ∃ P, P = q * e := ⟨_, rfl⟩
          have tP : IntKind.u64.wrap (q * e) = P := by rw [hP]; exact wrap_prod (by omega) (by omega) (by omega) (by omega)
          rw [← hP] at cD0
          have tD : decide (4294967296 * r + v0 < P) = false := decide_eq_false cD0
          clear cA hP HG
          go_wp2
          go_meet
          case rel => exact ⟨_, by rw [HE.out], rfl, rfl⟩
    case rest =>
      obtain ⟨r, rfl, rfl, rfl⟩ := hcut
      go_wp2
      go_ret2
      exact ⟨rfl, Drawn0.refl _⟩

theorem wrap_mod (x : Int) : IntKind.u64.wrap x = x % 18446744073709551616 := by simp [IntKind.wrap, IntKind.bits, IntKind.signed]
theorem wraps_u64 (n : Int) (h₀ : 0 ≤ n) (h₁ : n < 2 ^ 64) : IntKind.u64.wrap n = n := wrap_u64 h₀ (by simpa using h₁)
theorem and_low {x : Int} (h0 : 0 ≤ x) (h1 : x < 18446744073709551616) : bits .and .u64 x 4294967295 = x % 4294967296 :=
  bits_mask .u64 64 (by decide) wraps_u64 32 (by decide) x h0 (by simpa using h1)
theorem wrap_rest {U v Q Y R : Int} (h : R = U * 4294967296 + v - Q * Y) (h0 : 0 ≤ R) (h1 : R < 18446744073709551616) :
    IntKind.u64.wrap (IntKind.u64.wrap (IntKind.u64.wrap (U * 4294967296) + v) - IntKind.u64.wrap (Q * Y)) = R := by
  simp only [wrap_mod]; generalize Q * Y = z at *; omega
theorem rest_bd {u Y : Int} (hY : 0 < Y) : 0 ≤ u - u / Y * Y ∧ u - u / Y * Y < Y := by
  rw [← mod_eq]; exact ⟨Int.emod_nonneg _ (by omega), Int.emod_lt_of_pos _ hY⟩

theorem div_big (hi lo y : Int) (w : World) (h0 : 0 < hi) (hy1 : y < 18446744073709551616) (hl0 : 0 ≤ lo) (hl : lo < 18446744073709551616) (h1 : hi < y) :
    Calls Try.prog 49 #[.int .u64 hi, .int .u64 lo, .int .u64 y] w fun e w' => e = .returned (.tuple #[.int .u64 ((hi * 18446744073709551616 + lo) / y), .int .u64 ((hi * 18446744073709551616 + lo) % y)]) ∧ Drawn0 w w' := by
  have hy : 0 < y := by omega
  obtain ⟨s, hs, hb, hn0, hn1⟩ := shift_of y hy hy1
  obtain ⟨hpP, hp, hP⟩ := pows s hs
  have hU := norm_lt hpP hp hP hl h1
  have hN := norm (hi := hi) (lo := lo) hpP hp hP
  have hup := up_lt hpP hP hl
  have hlo0 : 0 ≤ lo / 2 ^ (64 - s) := Int.ediv_nonneg hl0 (by omega)
  have hhp : 0 ≤ hi * 2 ^ s := Int.mul_nonneg (by omega) (by omega)
  have ewY := wrap_u64 (x := y * 2 ^ s) (by omega) hn1
  have ewh := wrap_u64 (x := hi * 2 ^ s) hhp (by omega)
  have eL : IntKind.u64.wrap (lo * 2 ^ s) = lo * 2 ^ s % 18446744073709551616 := wrap_mod _
  have eU : bits .or .u64 (IntKind.u64.wrap (hi * 2 ^ s)) (lo / 2 ^ (64 - s)) = hi * 2 ^ s + lo / 2 ^ (64 - s) := by
    rw [ewh]
    exact bits_join .u64 64 (by decide) wraps_u64 s _ _ hhp (Int.mul_emod_left _ _) (by simp only [Int.reducePow]; omega) hlo0 hup (by simp only [Int.reducePow]; omega)
  have hL0 : 0 ≤ lo * 2 ^ s % 18446744073709551616 := Int.emod_nonneg _ (by decide)
  have hL1 : lo * 2 ^ s % 18446744073709551616 < 18446744073709551616 := Int.emod_lt_of_pos _ (by decide)
  have hU0 : 0 ≤ hi * 2 ^ s + lo / 2 ^ (64 - s) := by omega
  generalize hi * 2 ^ s + lo / 2 ^ (64 - s) = U at *
  generalize lo * 2 ^ s % 18446744073709551616 = L at *
  obtain ⟨Y, eY⟩ : ∃ Y, Y = y * 2 ^ s := ⟨_, rfl⟩
  rw [← eY] at hn0 hn1 hU ewY
  have aY := and_low (x := Y) (by omega) hn1
  have aL := and_low (x := L) hL0 hL1
  obtain ⟨d, ed⟩ : ∃ d, Y / 4294967296 = d := ⟨_, rfl⟩
  obtain ⟨e, ee⟩ : ∃ e, Y % 4294967296 = e := ⟨_, rfl⟩
  obtain ⟨v1, ev1⟩ : ∃ v1, L / 4294967296 = v1 := ⟨_, rfl⟩
  obtain ⟨v0, ev0⟩ : ∃ v0, L % 4294967296 = v0 := ⟨_, rfl⟩
  have eYde : d * 4294967296 + e = Y := by omega
  have hd : 0 < d := by omega
  have hYp : 0 < d * 4294967296 + e := by omega
  have hU' : U < d * 4294967296 + e := by omega
  have hG := guess_le (u := U) (d := d) (e := e) (by omega) (by omega) hU'
  have hq0 : 0 ≤ U / d := Int.ediv_nonneg hU0 (by omega)
  have hqd : 0 ≤ U / d * d := Int.mul_nonneg hq0 (by omega)
  have ⟨hr0, hr1⟩ := rest_bd (u := U) hd
  have hD := dig_start (u := U) (d := d) (e := e) (v := v1) hd (by omega) (by omega) hU0 (by omega)
  have hQ0 := q_ge (u := U) (v := v1) hYp hU0 (by omega)
  have hQ1 := q_lt (u := U) (v := v1) hYp hU' (by omega)
  have ⟨hR0, hR1⟩ := rest_bd (u := U * 4294967296 + v1) hYp
  obtain ⟨Q1, eQ1⟩ : ∃ Q1, Q1 = (U * 4294967296 + v1) / (d * 4294967296 + e) := ⟨_, rfl⟩
  rw [← eQ1] at hD hQ0 hQ1 hR0 hR1
  obtain ⟨R1, eR1⟩ : ∃ R1, R1 = U * 4294967296 + v1 - Q1 * (d * 4294967296 + e) := ⟨_, rfl⟩
  rw [← eR1] at hR0 hR1
  have wR1 := wrap_rest (Y := d * 4294967296 + e) eR1 hR0 (by omega)
  have hG' := guess_le (u := R1) (d := d) (e := e) (by omega) (by omega) hR1
  have hq0' : 0 ≤ R1 / d := Int.ediv_nonneg hR0 (by omega)
  have hqd' : 0 ≤ R1 / d * d := Int.mul_nonneg hq0' (by omega)
  have ⟨hr0', hr1'⟩ := rest_bd (u := R1) hd
  have hD' := dig_start (u := R1) (d := d) (e := e) (v := v0) hd (by omega) (by omega) hR0 (by omega)
  have hQ0' := q_ge (u := R1) (v := v0) hYp hR0 (by omega)
  have hQ1' := q_lt (u := R1) (v := v0) hYp hR1 (by omega)
  have ⟨hA0, hA1⟩ := rest_bd (u := R1 * 4294967296 + v0) hYp
  obtain ⟨Q0, eQ0⟩ : ∃ Q0, Q0 = (R1 * 4294967296 + v0) / (d * 4294967296 + e) := ⟨_, rfl⟩
  rw [← eQ0] at hD' hQ0' hQ1' hA0 hA1
  obtain ⟨A, eA⟩ : ∃ A, A = R1 * 4294967296 + v0 - Q0 * (d * 4294967296 + e) := ⟨_, rfl⟩
  rw [← eA] at hA0 hA1
  have wA := wrap_rest (Y := d * 4294967296 + e) eA hA0 (by omega)
  have ⟨f1, f2⟩ := whole (hi := hi) (lo := lo) (y := y) (p := 2 ^ s) (un32 := U) (un1 := v1) (un0 := v0) (q1 := Q1) (q0 := Q0) (un21 := R1) hp hy (by omega) (by rw [← eY, ← eYde]; exact eQ1) (by rw [← eY, ← eYde]; exact eR1) (by rw [← eY, ← eYde]; exact eQ0)
  rw [← eY, ← eYde, ← eA] at f2
  rw [eYde] at wR1 wA
  have HW := div_walk hi lo y w (by omega) hy hy1 hl0 hl h1 (by simp; omega) s hs hb Y U L d e v1 v0 (U / d * d) Q1 R1 Q0 (R1 / d * d) A (by rw [← eY]; exact ewY) eU eL ed (by rw [aY]; exact ee) ev1 (by rw [aL]; exact ev0)
    (by omega) (by omega) (by omega) (by omega) (by omega) (by omega) (by omega) (by omega) hU0 (by omega) hq0 hG (wrap_u64 hqd (by omega)) hqd (by omega) hr1 hD eQ1 hQ0 hQ1 wR1 hR0 (by omega)
    hq0' hG' (wrap_u64 hqd' (by omega)) hqd' (by omega) hr1' hD' eQ0 hQ0' hQ1' wA hA0 (by omega)
  rw [f1, f2] at HW
  exact HW

set_option maxHeartbeats 1000000 in
theorem div_zero_hi (lo y : Int) (w : World) (hy : 0 < y) (hy1 : y < 18446744073709551616) (hl0 : 0 ≤ lo) (hl : lo < 18446744073709551616) :
    Calls Try.prog 49 #[.int .u64 0, .int .u64 lo, .int .u64 y] w fun e w' => e = .returned (.tuple #[.int .u64 (lo / y), .int .u64 (lo % y)]) ∧ Drawn0 w w' := by
  have z : (y == 0) = false := by simp; omega
  have z1 : decide (y ≤ 0) = false := by simp; omega
  have d1 : lo / y ≤ lo := Int.ediv_le_self _ hl0
  have d0 : 0 ≤ lo / y := Int.ediv_nonneg hl0 (by omega)
  have m0 : 0 ≤ lo % y := Int.emod_nonneg _ (by omega)
  have m1 : lo % y < y := Int.emod_lt_of_pos _ hy
  go_enter Try.func49, Try.ntmps49
  go_wp2
  go_quiet (fail)
  go_wp2
  go_ret2
  exact ⟨rfl, by repeat (first | exact Drawn0.refl _ | apply Drawn0.step)⟩

/-- What math/bits.Div64 comes to, where it does not panic. -/
def bits_Div64.f (hi lo y : Int) : Option (Int × Int) :=
  if 0 ≤ hi ∧ hi < y ∧ y < 18446744073709551616 ∧ 0 ≤ lo ∧ lo < 18446744073709551616 then some ((hi * 18446744073709551616 + lo) / y, (hi * 18446744073709551616 + lo) % y) else none
theorem bits_Div64.calls (hi lo y r1 r2 : Int) (w : World) (h : bits_Div64.f hi lo y = some (r1, r2)) :
    Calls Try.prog 49 #[.int .u64 hi, .int .u64 lo, .int .u64 y] w fun e w' => e = .returned (.tuple #[.int .u64 r1, .int .u64 r2]) ∧ Drawn0 w w' := by
  unfold bits_Div64.f at h
  split at h
  · rename_i hc
    obtain ⟨c1, c2, c3, c4, c5⟩ := hc
    simp only [Option.some.injEq, Prod.mk.injEq] at h
    obtain ⟨rfl, rfl⟩ := h
    by_cases hz : hi = 0
    · subst hz
      simp only [Int.zero_mul, Int.zero_add]
      exact div_zero_hi lo y w c2 c3 c4 c5
    · exact div_big hi lo y w (by omega) c3 c4 c5 c2
  · cases h
/-- What math/bits.Mul64 comes to. -/
def bits_Mul64.f (x y : Int) : Option (Int × Int) :=
  if 0 ≤ x ∧ x < 18446744073709551616 ∧ 0 ≤ y ∧ y < 18446744073709551616 then some (x * y / 18446744073709551616, x * y % 18446744073709551616) else none
theorem bits_Mul64.calls (x y r1 r2 : Int) (w : World) (h : bits_Mul64.f x y = some (r1, r2)) :
    Calls Try.prog 48 #[.int .u64 x, .int .u64 y] w fun e w' => e = .returned (.tuple #[.int .u64 r1, .int .u64 r2]) ∧ Drawn0 w w' := by
  unfold bits_Mul64.f at h
  split at h
  · rename_i hc
    obtain ⟨c1, c2, c3, c4⟩ := hc
    simp only [Option.some.injEq, Prod.mk.injEq] at h
    obtain ⟨rfl, rfl⟩ := h
    obtain ⟨x, rfl⟩ := Int.eq_ofNat_of_zero_le c1
    obtain ⟨y, rfl⟩ := Int.eq_ofNat_of_zero_le c3
    refine (Try.bits_Mul64 x y (by omega) (by omega) w).mono ?_
    rintro e w' ⟨rfl, rfl⟩
    exact ⟨by simp, Drawn0.refl _⟩
  · cases h
end Go.Proofs.Ytlnhhamfmnjapaa
