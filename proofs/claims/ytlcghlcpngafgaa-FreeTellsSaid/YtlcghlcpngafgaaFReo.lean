/- The contract of free.Resolve, for whatever comes: the sizes behind all turns, or none. -/
import Derived.Test.YtlcghlcpngafgaaFRes
namespace Go.Proofs.Ytlcghlcpngafgaa.PFree
open Go.RowKit Go.Proofs.YtlcghlcpngafgaaW.PrintWords Go.Proofs.YtlcghlcpngafgaaW.PrintLast Go.Proofs.YtlcghlcpngafgaaW.PrintMore
set_option linter.unusedVariables false
set_option linter.unusedSimpArgs false

instance (x : S39) : Decidable (OkX x) := by unfold OkX; infer_instance
/-- Whether items may be. -/
def okL (l : List S39) : Bool := decide (∀ x ∈ l, OkX x) && decide (l.length ≤ 500)
theorem ok_body (x : S39) (c : Option Bool) :
    (if x.f0 < 0 then (some false) else (if x.f0 > 8796093022208 then (some false) else (if x.f1 < 0 then (some false) else (if x.f1 > 8796093022208 then (some false) else (if x.f2 < (-1) then (some false) else (if x.f2 > 8796093022208 then (some false) else ((free_factor.f x.f3).bind fun t103 => (if t103 = true then ((free_factor.f x.f4).bind fun t104 => (if t104 = true then (if x.f5 < (-8796093022208) then (some false) else (if x.f5 > 8796093022208 then (some false) else c)) else (some false))) else (some false))))))))) = if OkX x then c else some false := by
  have hf : ∀ n : Int, free_factor.f n = some (decide (0 ≤ n ∧ n ≤ 100)) := by
    intro n
    unfold free_factor.f
    by_cases h : n ≥ 0
    · rw [if_pos h]; congr 1; simp; omega
    · rw [if_neg h]; congr 1; simp; omega
  rw [hf, hf]
  simp only [Option.bind_some, decide_eq_true_eq]
  by_cases h : OkX x
  · rw [if_pos h]
    obtain ⟨a0, a1, a2, a3, a4, a5, a6, a7, a8, a9, a10, a11⟩ := h
    rw [if_neg (by omega), if_neg (by omega), if_neg (by omega), if_neg (by omega), if_neg (by omega), if_neg (by omega), if_pos (by omega), if_pos (by omega), if_neg (by omega), if_neg (by omega)]
  · rw [if_neg h]
    by_cases h0 : x.f0 < 0
    · rw [if_pos h0]
    rw [if_neg h0]
    by_cases h1 : x.f0 > 8796093022208
    · rw [if_pos h1]
    rw [if_neg h1]
    by_cases h2 : x.f1 < 0
    · rw [if_pos h2]
    rw [if_neg h2]
    by_cases h3 : x.f1 > 8796093022208
    · rw [if_pos h3]
    rw [if_neg h3]
    by_cases h4 : x.f2 < -1
    · rw [if_pos h4]
    rw [if_neg h4]
    by_cases h5 : x.f2 > 8796093022208
    · rw [if_pos h5]
    rw [if_neg h5]
    by_cases h6 : 0 ≤ x.f3 ∧ x.f3 ≤ 100
    · rw [if_pos h6]
      by_cases h7 : 0 ≤ x.f4 ∧ x.f4 ≤ 100
      · rw [if_pos h7]
        by_cases h8 : x.f5 < -8796093022208
        · rw [if_pos h8]
        rw [if_neg h8]
        by_cases h9 : x.f5 > 8796093022208
        · rw [if_pos h9]
        exact absurd ⟨by omega, by omega, by omega, by omega, by omega, by omega, h6.1, h6.2, h7.1, h7.2, by omega, by omega⟩ h
      · rw [if_neg h7]
    · rw [if_neg h6]
theorem ok_l0 (l : List S39) (hl : l.length ≤ 9223372036854775807) : ∀ (d i : Nat) (k : Nat), l.length - i = d → i ≤ l.length → d + 1 ≤ k → free_Ok.l0 k l l (l.length : Int) (i : Int) = some (decide (∀ x ∈ l.drop i, OkX x) && decide (l.length ≤ 500)) := by
  intro d
  induction d with
  | zero =>
    intro i k hd hi hk
    obtain ⟨k, rfl⟩ : ∃ m, k = m + 1 := ⟨k - 1, by omega⟩
    rw [free_Ok.l0, if_neg (by omega), List.drop_eq_nil_of_le (by omega)]
    simp
    omega
  | succ d ih =>
    intro i k hd hi hk
    obtain ⟨k, rfl⟩ : ∃ m, k = m + 1 := ⟨k - 1, by omega⟩
    rw [free_Ok.l0, if_pos (by omega), if_pos (by omega), if_pos (by omega), itm_T, ok_body, w64 (by omega) (by omega), show ((i : Int) + 1) = ((i + 1 : Nat) : Int) from by omega, ih (i + 1) k (by omega) (by omega) (by omega)]
    have hlt : i < l.length := by omega
    rw [List.drop_eq_getElem_cons hlt]
    have e : itm l i = l[i] := by simp [itm, List.getD, hlt]
    rw [e]
    generalize l[i] = y at *
    generalize l.drop (i + 1) = t at *
    by_cases h : OkX y
    · rw [if_pos h]; simp [h]
    · rw [if_neg h]; simp [h]
theorem ok_eq (l : List S39) (hl : l.length ≤ 9223372036854775807) (k : Nat) (hk : l.length + 1 ≤ k) : free_Ok.f k l = some (okL l) := by
  unfold free_Ok.f okL
  have := ok_l0 l hl l.length 0 k (by omega) (by omega) (by omega)
  simpa using this

set_option maxHeartbeats 1000000 in
set_option maxRecDepth 100000 in
theorem resolve_no (A0 : Option Addr) (c0 : Nat) (l : List S39) (inner : Int) (w : World) (b : Bool) (hk : Calls Try.prog 24 #[.slice A0 l.length c0] w fun e w' => e = .returned (.bool b) ∧ Below w.heap.size w w')
    (h : b = false ∨ inner < -8796093022208 ∨ 36028797018963968 < inner ∨ l.length = 0) :
    Calls Try.prog 20 #[.slice A0 l.length c0, .int .i64 inner] w fun e w' => e = .returned (.slice none 0 0) ∧ Below w.heap.size w w' := by
  have HK := Lib.hid hk
  clear hk
  cases b with
  | false =>
    clear h
    go_enter Try.func20, Try.ntmps20
    go_wp2_with (go_at_call 24; (with_reducible refine HK.out.mono ?_); rintro e wn ⟨rfl, hb⟩; have HB := Lib.hid hb; clear hb HK)
    go_ret
    exact ⟨rfl, HB.out⟩
  | true =>
    by_cases h1 : inner < -8796093022208
    · have t1 : decide (inner < -8796093022208) = true := decide_eq_true h1
      clear h h1
      go_enter Try.func20, Try.ntmps20
      go_wp2_with (go_at_call 24; (with_reducible refine HK.out.mono ?_); rintro e wn ⟨rfl, hb⟩; have HB := Lib.hid hb; clear hb HK)
      go_ret
      exact ⟨rfl, HB.out⟩
    · have t1 : decide (inner < -8796093022208) = false := decide_eq_false h1
      by_cases h2 : 36028797018963968 < inner
      · have t2 : decide (36028797018963968 < inner) = true := decide_eq_true h2
        clear h h1 h2
        go_enter Try.func20, Try.ntmps20
        go_wp2_with (go_at_call 24; (with_reducible refine HK.out.mono ?_); rintro e wn ⟨rfl, hb⟩; have HB := Lib.hid hb; clear hb HK)
        go_ret
        exact ⟨rfl, HB.out⟩
      · have t2 : decide (36028797018963968 < inner) = false := decide_eq_false h2
        have h3 : l.length = 0 := by
          rcases h with h | h | h | h
          · cases h
          · omega
          · omega
          · exact h
        have t3 : (((l.length : Nat) : Int) == 0) = true := by simp [List.length_eq_zero_iff.1 h3]
        clear h h1 h2 h3
        generalize l.length = n at *
        go_enter Try.func20, Try.ntmps20
        go_wp2_with (go_at_call 24; (with_reducible refine HK.out.mono ?_); rintro e wn ⟨rfl, hb⟩; have HB := Lib.hid hb; clear hb HK)
        go_ret
        exact ⟨rfl, HB.out⟩

/-- Whether items, and a room, may be, and there are some. -/
def okR (l : List S39) (inner : Int) : Bool := okL l && decide (-8796093022208 ≤ inner) && decide (inner ≤ 36028797018963968) && decide (0 < l.length)
/-- What free.Resolve comes to (by way of a count, so that Lean does not reckon it by itself). -/
def free_Resolve.go (l : List S39) (inner : Int) (n : Nat) : Option (List Int) := if h : 0 < n then free_Resolve.go l inner (n / 2) else some (if okR l inner = true then rslv l inner else [])
termination_by n
decreasing_by omega
def free_Resolve.f (l : List S39) (inner : Int) : Option (List Int) := free_Resolve.go l inner 0
theorem free_Resolve.eq (l : List S39) (inner : Int) : free_Resolve.f l inner = some (if okR l inner = true then rslv l inner else []) := by
  unfold free_Resolve.f
  rw [free_Resolve.go, dif_neg (by decide)]
theorem free_Resolve.calls (A0 : Option Addr) (c0 : Nat) (l0 : List (S39)) (a1 : Int) (r : List Int) (w : World) (hr0 : Kd.C k39 w A0 l0.length l0) (hc0 : l0.length ≤ c0) (h : free_Resolve.f l0 a1 = some r) :
    Calls Try.prog 20 #[.slice A0 l0.length c0, .int .i64 a1] w fun e w' => ∃ v0_ : Value, e = .returned (v0_) ∧ Kd.R (Kd.int .i64) 2 w' w.heap.size (fun _ => True) v0_ r ∧ Below w.heap.size w w' := by
  have hlen : l0.length ≤ 9223372036854775807 := hr0.2.1
  have hk := ok_eq l0 hlen (l0.length + 1) (Nat.le_refl _)
  rw [free_Resolve.eq] at h
  obtain rfl := Option.some.inj h
  clear h
  by_cases ho : okR l0 a1 = true
  · rw [if_pos ho]
    have h2 := ho
    simp only [okR, okL, Bool.and_eq_true, decide_eq_true_eq] at h2
    obtain ⟨⟨⟨⟨h1, h3⟩, h4⟩, h5⟩, h6⟩ := h2
    have hb : okL l0 = true := by simp [okL, h1, h3]; exact h1
    rw [hb] at hk
    exact resolve_ok A0 c0 l0 a1 w hr0 hc0 h3 h6 h1 h4 h5 _ hk
  · rw [if_neg ho]
    have h2 := ho
    simp only [okR, Bool.and_eq_true, decide_eq_true_eq] at h2
    refine (resolve_no A0 c0 l0 a1 w (okL l0) (free_Ok.calls _ A0 c0 l0 _ w hr0 hc0 hk) ?_).mono ?_
    · cases e : okL l0 with
      | false => exact .inl rfl
      | true => simp only [e, true_and] at h2; omega
    · rintro e w' ⟨rfl, hb⟩
      exact ⟨_, rfl, Kd.R_nil _ _ _ _ _, hb⟩
end Go.Proofs.Ytlcghlcpngafgaa.PFree
