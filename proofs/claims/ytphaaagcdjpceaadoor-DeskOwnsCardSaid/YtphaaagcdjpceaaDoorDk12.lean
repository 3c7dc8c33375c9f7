/- quoinlaw26.sameInts: rows alike. -/
import Derived.Test.YtphaaagcdjpceaaDoorDk11
namespace Go.Proofs.YtphaaagcdjpceaaDoor
open Go.RowKit Go.Extern.Stop Go.Stop Go.Extern Go.Proofs.YtphaaagcdjpceaaDoorW.PrintWords Go.Proofs.YtphaaagcdjpceaaDoorW.PrintLast Go.Proofs.YtphaaagcdjpceaaDoorW.PrintMore
set_option linter.unusedVariables false
set_option maxHeartbeats 4000000 in
set_option maxRecDepth 100000 in
theorem same_yes (A B : Option Addr) (c c' : Nat) (xs : List Int) (w : World) (h1 : Kd.C (Kd.int .i64) w A xs.length xs) (h2 : Kd.C (Kd.int .i64) w B xs.length xs) (hl : xs.length ≤ 4000000000) : Calls Tryd.prog 44 #[.slice A xs.length c, .slice B xs.length c'] w fun e w' => e = .returned (.bool true) ∧ Below w.heap.size w w' := by
  have H1 := Lib.hid h1
  have H2 := Lib.hid h2
  have HL := Lib.hid hl
  clear h1 h2 hl
  go_enter Tryd.func44, Tryd.ntmps44
  go_wp2_with (fail)
  go_loopg [5] xs.length (fun gk v5 wr => ∃ j : Nat, v5 = .int .i64 (j : Int) ∧ j ≤ xs.length ∧ xs.length - j ≤ gk ∧ Hid (Below w.heap.size w wr))
  case atStart => exact ⟨0, rfl, by omega, by omega, Lib.hid (Below.refl _ _)⟩
  case round =>
    obtain ⟨j, rfl, hj, hk, HB⟩ := hrel
    by_cases c1 : j < xs.length
    · have b1 : decide ((j : Int) < (xs.length : Int)) = true := decide_eq_true (by omega)
      have b1' : decide (j < xs.length) = true := decide_eq_true c1
      obtain ⟨ad, hA, hx⟩ := Kd.at_int (Kd.C_below H1.out HB.out) (j : Int) (by omega) (by omega)
      obtain ⟨ad2, hA2, hx2⟩ := Kd.at_int (Kd.C_below H2.out HB.out) (j : Int) (by omega) (by omega)
      cases hA
      cases hA2
      simp only [Int.toNat_natCast] at hx hx2
      generalize rd xs (j : Int) = k at *
      have p1 := eq_true (show 0 ≤ (j : Int) by omega)
      have q1 := eq_true (show (j : Int) < (xs.length : Int) by omega)
      have hl9 := HL.out
      go_upto_region 6 with (fail)
      go_quiet (fail)
      rename_i nq
      have HB2 := Lib.hid (pw_below_drewN HB.out nq)
      go_wp2_with (fail)
      go_roundg (xs.length - (j + 1))
      case measure => omega
      case rel => exact ⟨j + 1, by simp, by omega, by omega, HB2⟩
    · have b1 : decide ((j : Int) < (xs.length : Int)) = false := decide_eq_false (by omega)
      have b1' : decide (j < xs.length) = false := decide_eq_false c1
      go_wp2_with (fail)
      go_ret
      exact ⟨rfl, by first | exact HB.out | exact pw_below_drewN HB.out _⟩
end Go.Proofs.YtphaaagcdjpceaaDoor
