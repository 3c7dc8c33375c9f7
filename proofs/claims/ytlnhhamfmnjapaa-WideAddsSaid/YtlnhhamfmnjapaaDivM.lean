/- Plain arithmetic: the division of a number of two words by one of one word, digit by digit (Knuth's D), and the scaling ahead of it. No Go in sight. -/
import Derived.Lib.BitFns
namespace Go.Proofs.Ytlnhhamfmnjapaa.Div64M
/-- One digit of Knuth's division: what holds of (q, r) while the guess is too great. -/
structure Dig (u d y v Q q r : Int) : Prop where
  sum : q * d + r = u
  lo : Q ≤ q
  r0 : 0 ≤ r

theorem mul_le_mul_r {a b c : Int} (h : a ≤ b) (hc : 0 ≤ c) : a * c ≤ b * c := Int.mul_le_mul_of_nonneg_right h hc

/-- The quotient's digit is below 2^32. -/
theorem q_lt {u y v : Int} (hy : 0 < y) (h : u < y) (hv : v < 4294967296) : (u * 4294967296 + v) / y < 4294967296 := by
  apply Int.ediv_lt_of_lt_mul hy
  have : u + 1 ≤ y := h
  have h1 := mul_le_mul_r this (c := 4294967296) (by decide)
  rw [Int.add_mul] at h1
  rw [Int.mul_comm 4294967296 y]; omega

theorem q_ge {u y v : Int} (hy : 0 < y) (hu : 0 ≤ u) (hv : 0 ≤ v) : 0 ≤ (u * 4294967296 + v) / y :=
  Int.ediv_nonneg (by omega) (by omega)

/-- y = d * 2^32 + e. The guess u / d is not below the digit. -/
theorem dig_start {u d e v : Int} (hd : 0 < d) (he0 : 0 ≤ e) (hv : v < 4294967296) (hu : 0 ≤ u) (hv0 : 0 ≤ v) :
    Dig u d (d * 4294967296 + e) v ((u * 4294967296 + v) / (d * 4294967296 + e)) (u / d) (u - u / d * d) := by
  refine ⟨by omega, ?_, ?_⟩
  · have hy : 0 < d * 4294967296 + e := by omega
    have hQ := Int.ediv_mul_le (u * 4294967296 + v) (b := d * 4294967296 + e) (by omega)
    have hQ0 := q_ge (u := u) (v := v) hy hu hv0
    generalize (u * 4294967296 + v) / (d * 4294967296 + e) = Q at *
    apply (Int.le_ediv_iff_mul_le hd).2
    have h1 : Q * (d * 4294967296) ≤ Q * (d * 4294967296 + e) := Int.mul_le_mul_of_nonneg_left (by omega) hQ0
    have h2 : Q * (d * 4294967296) = (Q * d) * 4294967296 := by rw [Int.mul_assoc]
    omega
  · have := Int.ediv_mul_le u (b := d) (by omega); omega

theorem guess_le {u d e : Int} (hd : 2147483648 ≤ d) (he : e < 4294967296) (h : u < d * 4294967296 + e) : u / d ≤ 4294967297 := by
  have h1 : u < 4294967298 * d := by omega
  have : u / d < 4294967298 := Int.ediv_lt_of_lt_mul (by omega) (by omega)
  omega

/-- A step down. -/
theorem dig_down {u d e v Q q r : Int} (hd : 0 < d) (hy : 0 < d * 4294967296 + e) (hQ : Q = (u * 4294967296 + v) / (d * 4294967296 + e)) (hQl : Q < 4294967296) (h : Dig u d (d * 4294967296 + e) v Q q r)
    (ht : 4294967296 ≤ q ∨ 4294967296 * r + v < q * e) : Dig u d (d * 4294967296 + e) v Q (q - 1) (r + d) := by
  refine ⟨by have := h.sum; rw [Int.sub_mul]; omega, ?_, by have := h.r0; omega⟩
  rcases ht with ht | ht
  · omega
  · have : Q < q := by
      rw [hQ]
      apply Int.ediv_lt_of_lt_mul hy
      have hs := h.sum
      have h1 : q * (d * 4294967296 + e) = (q * d) * 4294967296 + q * e := by rw [Int.mul_add, Int.mul_assoc]
      rw [h1, ← hs, Int.add_mul]; omega
    omega

/-- The end: the guess is the digit. -/
theorem dig_end {u d e v Q q r : Int} (hy : 0 < d * 4294967296 + e) (he : e < 4294967296) (he0 : 0 ≤ e) (hv : 0 ≤ v) (hQ : Q = (u * 4294967296 + v) / (d * 4294967296 + e)) (h : Dig u d (d * 4294967296 + e) v Q q r)
    (ht : q * e ≤ 4294967296 * r + v ∨ 4294967296 ≤ r ∧ q ≤ 4294967296) : q = Q := by
  have hm : q * e ≤ 4294967296 * r + v := by
    rcases ht with ht | ⟨h1, h2⟩
    · exact ht
    · have h3 : q * e ≤ 4294967296 * e := mul_le_mul_r h2 he0
      omega
  have hs := h.sum
  have h1 : q * (d * 4294967296 + e) = (q * d) * 4294967296 + q * e := by rw [Int.mul_add, Int.mul_assoc]
  have : q ≤ Q := by
    rw [hQ]; apply (Int.le_ediv_iff_mul_le hy).2
    rw [← hs, Int.add_mul]; omega
  have := h.lo
  omega
/-- Two digits, one behind the other. -/
theorem two_div {U v y : Int} (hy : 0 < y) : (U * 4294967296 + v) / y = U / y * 4294967296 + ((U - U / y * y) * 4294967296 + v) / y := by
  have h : U * 4294967296 + v = ((U - U / y * y) * 4294967296 + v) + (U / y * 4294967296) * y := by
    rw [Int.sub_mul]; have : U / y * 4294967296 * y = U / y * y * 4294967296 := by rw [Int.mul_assoc, Int.mul_comm 4294967296, Int.mul_assoc]
    omega
  rw [h, Int.add_mul_ediv_right _ _ (by omega)]; rw [Int.add_comm]


theorem two_mod {U v y : Int} : (U * 4294967296 + v) % y = ((U - U / y * y) * 4294967296 + v) % y := by
  have h : U * 4294967296 + v = ((U - U / y * y) * 4294967296 + v) + (U / y * 4294967296) * y := by
    rw [Int.sub_mul]; have : U / y * 4294967296 * y = U / y * y * 4294967296 := by rw [Int.mul_assoc, Int.mul_comm 4294967296, Int.mul_assoc]
    omega
  rw [h, Int.add_mul_emod_self_right]

theorem mod_eq (u y : Int) : u % y = u - u / y * y := by have := Int.mul_ediv_add_emod u y; rw [Int.mul_comm] at this; omega

theorem scale_div {a b p : Int} (hp : 0 < p) : (a * p) / (b * p) = a / b := Int.mul_ediv_mul_of_pos_left _ _ hp
theorem scale_mod {a b p : Int} (hp : 0 < p) : (a * p) % (b * p) / p = a % b := by
  rw [mod_eq, mod_eq, scale_div hp, ← Int.mul_assoc, ← Int.sub_mul, Int.mul_ediv_cancel _ (by omega)]

/-- The whole: of the dividend and the divisor, both moved up. -/
theorem whole {hi lo y p un32 un1 un0 q1 q0 un21 : Int} (hp : 0 < p) (hy : 0 < y)
    (hu : (un32 * 4294967296 + un1) * 4294967296 + un0 = (hi * 18446744073709551616 + lo) * p)
    (h1 : q1 = (un32 * 4294967296 + un1) / (y * p)) (h2 : un21 = un32 * 4294967296 + un1 - q1 * (y * p)) (h3 : q0 = (un21 * 4294967296 + un0) / (y * p)) :
    q1 * 4294967296 + q0 = (hi * 18446744073709551616 + lo) / y ∧ (un21 * 4294967296 + un0 - q0 * (y * p)) / p = (hi * 18446744073709551616 + lo) % y := by
  have hyp : 0 < y * p := Int.mul_pos hy hp
  subst h1; subst h2
  have e1 := two_div (U := un32 * 4294967296 + un1) (v := un0) hyp
  have e2 := two_mod (U := un32 * 4294967296 + un1) (v := un0) (y := y * p)
  rw [hu, scale_div hp] at e1
  rw [hu] at e2
  constructor
  · rw [h3, e1]
  · rw [h3, ← mod_eq, ← e2, scale_mod hp]
theorem norm {hi lo p P : Int} (h : p * P = 18446744073709551616) (hp : 0 < p) (hP : 0 < P) :
    (hi * p + lo / P) * 18446744073709551616 + lo * p % 18446744073709551616 = (hi * 18446744073709551616 + lo) * p := by
  have e1 := Int.mul_ediv_add_emod lo P
  have e2 : lo * p = lo % P * p + (lo / P) * 18446744073709551616 := by
    have : lo * p = (P * (lo / P) + lo % P) * p := by rw [e1]
    rw [this, Int.add_mul, ← h, Int.mul_comm P, Int.mul_assoc, Int.mul_comm P p]; omega
  have e3 : lo * p % 18446744073709551616 = lo % P * p := by
    rw [e2, Int.add_mul_emod_self_right]
    apply Int.emod_eq_of_lt
    · exact Int.mul_nonneg (Int.emod_nonneg _ (by omega)) (by omega)
    · rw [← h, Int.mul_comm p]; exact Int.mul_lt_mul_of_pos_right (Int.emod_lt_of_pos _ hP) hp
  rw [e3, Int.add_mul, Int.add_mul, e2]
  have : hi * p * 18446744073709551616 = hi * 18446744073709551616 * p := by rw [Int.mul_assoc, Int.mul_comm p, Int.mul_assoc]
  omega
theorem up_lt {lo p P : Int} (h : p * P = 18446744073709551616) (hP : 0 < P) (hl : lo < 18446744073709551616) : lo / P < p :=
  Int.ediv_lt_of_lt_mul hP (by first | (rw [h]; omega) | (rw [Int.mul_comm, h]; omega))
theorem norm_lt {hi lo y p P : Int} (h : p * P = 18446744073709551616) (hp : 0 < p) (hP : 0 < P) (hl : lo < 18446744073709551616) (hy : hi < y) : hi * p + lo / P < y * p := by
  have := up_lt h hP hl
  have h1 : (hi + 1) * p ≤ y * p := Int.mul_le_mul_of_nonneg_right hy (by omega)
  rw [Int.add_mul] at h1; omega

theorem bitLenAux_spec : ∀ (f x : Nat), 0 < x → x < 2 ^ f → 1 ≤ Lib.bitLenAux f x ∧ 2 ^ (Lib.bitLenAux f x - 1) ≤ x ∧ x < 2 ^ (Lib.bitLenAux f x) ∧ Lib.bitLenAux f x ≤ f
  | 0, x, h0, h => by simp at h; omega
  | f + 1, x, h0, h => by
    simp only [Lib.bitLenAux]
    rw [if_neg (by omega)]
    by_cases h2 : x / 2 = 0
    · have hx : x = 1 := by omega
      subst hx
      cases f <;> simp [Lib.bitLenAux]
    · have ⟨a, b, c, d⟩ := bitLenAux_spec f (x / 2) (by omega) (by rw [Nat.pow_succ] at h; omega)
      generalize Lib.bitLenAux f (x / 2) = n at *
      obtain ⟨m, rfl⟩ : ∃ m, n = m + 1 := ⟨n - 1, by omega⟩
      refine ⟨by omega, ?_, ?_, by omega⟩
      · rw [show 1 + (m + 1) - 1 = m + 1 from by omega, Nat.pow_succ]
        simp only [Nat.add_sub_cancel] at b; omega
      · rw [show 1 + (m + 1) = (m + 1) + 1 from by omega, Nat.pow_succ]; omega

theorem shift_of (y : Int) (h0 : 0 < y) (h1 : y < 18446744073709551616) : ∃ s : Nat, s ≤ 63 ∧ (64 - (Lib.bitLen y.toNat : Int)) = (s : Int) ∧ 9223372036854775808 ≤ y * 2 ^ s ∧ y * 2 ^ s < 18446744073709551616 := by
  obtain ⟨x, rfl⟩ := Int.eq_ofNat_of_zero_le (Int.le_of_lt h0)
  have ⟨a, b, c, d⟩ := bitLenAux_spec 64 x (by omega) (by omega)
  simp only [Int.toNat_natCast]
  show ∃ s : Nat, s ≤ 63 ∧ (64 - ((Lib.bitLenAux 64 x : Nat) : Int)) = (s : Int) ∧ _ ∧ _
  generalize Lib.bitLenAux 64 x = n at *
  have e : ∀ k m : Nat, k + m = 64 → 2 ^ m * 2 ^ k = 18446744073709551616 := fun k m h => by rw [← Nat.pow_add, Nat.add_comm, h]
  have e' : ∀ k m : Nat, k + m = 63 → 2 ^ m * 2 ^ k = 9223372036854775808 := fun k m h => by rw [← Nat.pow_add, Nat.add_comm, h]
  have cst : ∀ k : Nat, ((x : Int) * 2 ^ k) = ((x * 2 ^ k : Nat) : Int) := fun k => by rw [Int.natCast_mul, Int.natCast_pow]; rfl
  refine ⟨64 - n, by omega, by omega, ?_, ?_⟩
  · have h := Nat.mul_le_mul_right (2 ^ (64 - n)) b
    rw [e' (64 - n) (n - 1) (by omega)] at h
    rw [cst]; omega
  · have h := Nat.mul_lt_mul_of_pos_right c (Nat.two_pow_pos (64 - n))
    rw [e (64 - n) n (by omega)] at h
    rw [cst]; omega

theorem pows (s : Nat) (hs : s ≤ 63) : (2 : Int) ^ s * 2 ^ (64 - s) = 18446744073709551616 ∧ (0 : Int) < 2 ^ s ∧ (0 : Int) < 2 ^ (64 - s) := by
  refine ⟨?_, Int.pow_pos (by decide), Int.pow_pos (by decide)⟩
  rw [← Int.pow_add, show s + (64 - s) = 64 from by omega]; rfl
end Go.Proofs.Ytlnhhamfmnjapaa.Div64M
