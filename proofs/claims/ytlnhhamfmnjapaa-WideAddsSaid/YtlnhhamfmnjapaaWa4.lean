import Derived.Test.YtlnhhamfmnjapaaWa1
import Derived.Test.YtlnhhamfmnjapaaWa3
namespace Go.Proofs.Ytlnhhamfmnjapaa
open Go.RowKit Go.Proofs.YtlnhhamfmnjapaaW.PrintWords Go.Proofs.YtlnhhamfmnjapaaW.PrintLast Go.Proofs.YtlnhhamfmnjapaaW.PrintMore
open PParse
set_option linter.unusedVariables false
set_option linter.unusedSimpArgs false
def InRow (w : World) (a : Option Addr) (len cap : Nat) (zs : List Int) : Prop :=
  (a = none ∧ len = 0 ∧ cap = 0 ∧ zs = []) ∨
  ∃ x, a = some x ∧ len ≤ cap ∧ cap ≤ maxLen ∧ zs.length = cap ∧ (∀ i, i < zs.length → w.cell? (x.add i) = some (.int .i64 (zs.getD i 0))) ∧ ∀ n ∈ zs, (Lit.int .i64 n).wf = true
theorem cell_lt {w : World} {a : Addr} {v : Value} (h : w.cell? a = some v) : a.block < w.heap.size := by
  apply Decidable.byContradiction
  intro hn
  rw [show w.cell? a = none by simp [World.cell?, Array.getElem?_eq_none (show w.heap.size ≤ a.block by omega)]] at h
  cases h
theorem InRow.below {w W : World} {a : Option Addr} {len cap : Nat} {zs : List Int} (h : InRow w a len cap zs) (hb : Below w.heap.size w W) : InRow W a len cap zs := by
  rcases h with h | ⟨x, h1, h2, h3, h4, h5, h6⟩
  · exact .inl h
  · exact .inr ⟨x, h1, h2, h3, h4, fun i hi => (hb.cell (cell_lt (h5 i hi))).trans (h5 i hi), h6⟩
theorem InRow.at_ {w : World} {a : Option Addr} {len cap : Nat} {zs : List Int} (h : InRow w a len cap zs) (i : Nat) (hi : i < len) : ∃ x n, a = some x ∧ w.cell? (x.add i) = some (.int .i64 n) := by
  rcases h with ⟨_, h, _⟩ | ⟨x, h1, h2, h3, h4, h5, h6⟩
  · omega
  · exact ⟨x, _, h1, h5 i (by omega)⟩
set_option maxHeartbeats 8000000 in
set_option maxRecDepth 100000 in
theorem text_calls (A : Option Addr) (len cap : Nat) (zs : List Int) (b : Bool) (W : World) (hi : InRow W A len cap zs) : Calls Try.prog 45 #[.slice A len cap, .bool b] W fun e W' => ∃ s : ByteArray, e = .returned (.string s) ∧ Below W.heap.size W W' := by
  have HI := Lib.hid hi
  clear hi
  go_enter Try.func45, Try.ntmps45
  go_wp2_with (fail)
  go_loopg [5, 6] 20 (fun gk v5 v6 wr => ∃ (s : ByteArray) (i : Nat), v5 = .string s ∧ v6 = .int .i64 (i : Int) ∧ i ≤ 20 ∧ 20 - i ≤ gk ∧ Hid (s.size ≤ 101 * i) ∧ Hid (Below W.heap.size W wr))
  case atStart => exact ⟨_, 0, rfl, rfl, by omega, by omega, Lib.hid (by decide), Lib.hid (Below.refl _ _)⟩
  case round =>
    obtain ⟨s, i, rfl, rfl, hi20, hk, HS, HB⟩ := hrel
    by_cases c1 : i < len
    · by_cases c2 : i < 20
      · obtain ⟨x, n, rfl, hx⟩ := (HI.out.below HB.out).at_ i c1
        have b1 : decide ((i : Int) < (len : Int)) = true := decide_eq_true (by omega)
        have b1' : decide (i < len) = true := decide_eq_true c1
        have b2 : decide ((i : Int) < 20) = true := decide_eq_true (by omega)
        have HX := Lib.hid (And.intro c1 c2)
        have p1 := eq_true (show 0 ≤ (i : Int) by omega)
        have q1 := eq_true (show (i : Int) < (len : Int) by omega)
        go_upto_region 6 with (go_at_call 59; refine (one_calls n _).mono ?_; rintro e w1 ⟨s1, rfl, hs1, hb1⟩; have HS1 := Lib.hid hs1; have HB1 := Lib.hid (below_step (by first | exact HB.out | exact pw_below_drewN HB.out _) hb1); clear hs1 hb1 hx)
        obtain ⟨⟨r1, r2, r3⟩, hr⟩ := parse_tot s1
        go_upto_region 7 with (go_at_call 44; refine (quoinref4_Parse.calls 130000 s1 r1 r2 r3 _ hr).mono ?_; rintro e w2 ⟨v0, rfl, hv, hb2⟩; have HB2 := Lib.hid (below_step (by first | exact HB1.out | exact pw_below_drewN HB1.out _) hb2); clear hb2 hv)
        cases b
        · by_cases c4 : s.toList = []
          · have b4 : (s.toList == []) = true := beq_iff_eq.mpr c4
            have b5 : (s.toList != []) = false := bne_eq_false_iff_eq.mpr c4
            have had0 : s.size + s1.size ≤ 9223372036854775807 := by have := HS.out; have := HS1.out; omega
            have had1 : decide (s.size + s1.size ≤ 9223372036854775807) = true := decide_eq_true had0
            have had2 : (9223372036854775807 < s.size + s1.size) = False := eq_false (Nat.not_lt.2 had0)
            go_wp2_with (fail)
            go_roundg (20 - (i + 1))
            case measure => omega
            case rel => exact ⟨_, i + 1, rfl, by simp, by have := HX.out; omega, by omega, Lib.hid (by have := HS.out; have := HS1.out; rw [ByteArray.size_append]; omega), Lib.hid (by first | exact HB2.out | exact pw_below_drewN HB2.out _)⟩
          · have b4 : (s.toList == []) = false := beq_eq_false_iff_ne.mpr c4
            have b5 : (s.toList != []) = true := bne_iff_ne.mpr c4
            have e1 : (⟨#[59]⟩ : ByteArray).size = 1 := rfl
            have had0 : s.size + (⟨#[59]⟩ : ByteArray).size ≤ 9223372036854775807 := by have := HS.out; omega
            have had1 : decide (s.size + (⟨#[59]⟩ : ByteArray).size ≤ 9223372036854775807) = true := decide_eq_true had0
            have had2 : (9223372036854775807 < s.size + (⟨#[59]⟩ : ByteArray).size) = False := eq_false (Nat.not_lt.2 had0)
            have had3 : (s ++ (⟨#[59]⟩ : ByteArray)).size + s1.size ≤ 9223372036854775807 := by rw [ByteArray.size_append]; have := HS.out; have := HS1.out; omega
            have had4 : decide ((s ++ (⟨#[59]⟩ : ByteArray)).size + s1.size ≤ 9223372036854775807) = true := decide_eq_true had3
            have had5 : (9223372036854775807 < (s ++ (⟨#[59]⟩ : ByteArray)).size + s1.size) = False := eq_false (Nat.not_lt.2 had3)
            go_wp2_with (fail)
            go_roundg (20 - (i + 1))
            case measure => omega
            case rel => exact ⟨_, i + 1, rfl, by simp, by have := HX.out; omega, by omega, Lib.hid (by have := HS.out; have := HS1.out; rw [ByteArray.size_append, ByteArray.size_append]; omega), Lib.hid (by first | exact HB2.out | exact pw_below_drewN HB2.out _)⟩
        · by_cases c3 : r3 = 0
          · have b3 : (r3 == 0) = true := beq_iff_eq.mpr c3
            have b3' : (r3 != 0) = false := bne_eq_false_iff_eq.mpr c3
            clear c3
            by_cases c4 : s.toList = []
            · have b4 : (s.toList == []) = true := beq_iff_eq.mpr c4
              have b5 : (s.toList != []) = false := bne_eq_false_iff_eq.mpr c4
              have had0 : s.size + s1.size ≤ 9223372036854775807 := by have := HS.out; have := HS1.out; omega
              have had1 : decide (s.size + s1.size ≤ 9223372036854775807) = true := decide_eq_true had0
              have had2 : (9223372036854775807 < s.size + s1.size) = False := eq_false (Nat.not_lt.2 had0)
              go_wp2_with (fail)
              go_roundg (20 - (i + 1))
              case measure => omega
              case rel => exact ⟨_, i + 1, rfl, by simp, by have := HX.out; omega, by omega, Lib.hid (by have := HS.out; have := HS1.out; rw [ByteArray.size_append]; omega), Lib.hid (by first | exact HB2.out | exact pw_below_drewN HB2.out _)⟩
            · have b4 : (s.toList == []) = false := beq_eq_false_iff_ne.mpr c4
              have b5 : (s.toList != []) = true := bne_iff_ne.mpr c4
              have e1 : (⟨#[59]⟩ : ByteArray).size = 1 := rfl
              have had0 : s.size + (⟨#[59]⟩ : ByteArray).size ≤ 9223372036854775807 := by have := HS.out; omega
              have had1 : decide (s.size + (⟨#[59]⟩ : ByteArray).size ≤ 9223372036854775807) = true := decide_eq_true had0
              have had2 : (9223372036854775807 < s.size + (⟨#[59]⟩ : ByteArray).size) = False := eq_false (Nat.not_lt.2 had0)
              have had3 : (s ++ (⟨#[59]⟩ : ByteArray)).size + s1.size ≤ 9223372036854775807 := by rw [ByteArray.size_append]; have := HS.out; have := HS1.out; omega
              have had4 : decide ((s ++ (⟨#[59]⟩ : ByteArray)).size + s1.size ≤ 9223372036854775807) = true := decide_eq_true had3
              have had5 : (9223372036854775807 < (s ++ (⟨#[59]⟩ : ByteArray)).size + s1.size) = False := eq_false (Nat.not_lt.2 had3)
              go_wp2_with (fail)
              go_roundg (20 - (i + 1))
              case measure => omega
              case rel => exact ⟨_, i + 1, rfl, by simp, by have := HX.out; omega, by omega, Lib.hid (by have := HS.out; have := HS1.out; rw [ByteArray.size_append, ByteArray.size_append]; omega), Lib.hid (by first | exact HB2.out | exact pw_below_drewN HB2.out _)⟩
          · have b3 : (r3 == 0) = false := beq_eq_false_iff_ne.mpr c3
            have b3' : (r3 != 0) = true := bne_iff_ne.mpr c3
            clear c3
            go_wp2_with (fail)
            go_roundg (20 - (i + 1))
            case measure => omega
            case rel => exact ⟨_, i + 1, rfl, by simp, by have := HX.out; omega, by omega, Lib.hid (by have := HS.out; have := HS1.out; omega), Lib.hid (by first | exact HB2.out | exact pw_below_drewN HB2.out _)⟩
      · have b1 : decide ((i : Int) < (len : Int)) = true := decide_eq_true (by omega)
        have b1' : decide (i < len) = true := decide_eq_true c1
        have b2 : decide ((i : Int) < 20) = false := decide_eq_false (by omega)
        go_wp2_with (fail)
        go_ret
        exact ⟨_, rfl, by first | exact HB.out | exact pw_below_drewN HB.out _⟩
    · have b1 : decide ((i : Int) < (len : Int)) = false := decide_eq_false (by omega)
      have b1' : decide (i < len) = false := decide_eq_false c1
      go_wp2_with (fail)
      go_ret
      exact ⟨_, rfl, by first | exact HB.out | exact pw_below_drewN HB.out _⟩
end Go.Proofs.Ytlnhhamfmnjapaa
