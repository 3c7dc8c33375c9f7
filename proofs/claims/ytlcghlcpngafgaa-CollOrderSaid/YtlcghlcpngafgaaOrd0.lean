/- slices.insertionSortCmpFunc and cmp.Compare, by the kit's contracts at this program; coll.Order's closure: it compares the orders at two places. -/
import Derived.Test.YtlcghlcpngafgaaIns
import Derived.Deep.RegionWith
import Derived.Test.YtlcghlcpngafgaaWMore
import Derived.Test.YtlcghlcpngafgaaProg
import Derived.Lib.Hide
import Derived.Deep.QuietTactic
namespace Go.Proofs.Ytlcghlcpngafgaa
open Go.Shelf Go.RowKit Go.Lib Go.Sort Go.Proofs.YtlcghlcpngafgaaW.PrintWords Go.Proofs.YtlcghlcpngafgaaW.PrintMore
set_option linter.unusedVariables false

theorem cmp_calls (x y : Int) (W : World) : Calls Try.prog 31 #[.int .i64 x, .int .i64 y] W fun e w' => e = .returned (.int .i64 (compareInt x y)) ∧ w' = W := AnyG.cmp_Compare_int Try.cmpLay x y W

set_option maxHeartbeats 2000000 in
set_option maxRecDepth 100000 in
/-- The closure of coll.Order, at two places of the row that it has captured. -/
theorem ord1 (l : List Int) (A : Option Addr) (c B : Nat) (x y : Nat) (hx : x < l.length) (hy : y < l.length) (W : World) (hB : W.cell? ⟨B, 0, none⟩ = some (.slice A l.length c)) (hC : Kd.C (Kd.int .i64) W A l.length l) :
    Calls Try.prog 30 #[.int .i64 x, .int .i64 y, .pointer (some ⟨B, 0, none⟩)] W fun e w' => e = .returned (.int .i64 (compareInt (rd l x) (rd l y))) ∧ ∃ q, w' = W.drewN q := by
  have px : 0 ≤ (x : Int) := by omega
  have qx : (x : Int) < (l.length : Int) := by omega
  have py : 0 ≤ (y : Int) := by omega
  have qy : (y : Int) < (l.length : Int) := by omega
  obtain ⟨ad, e1, hcx⟩ := Kd.at_int hC x px qx
  cases e1
  obtain ⟨ad', e2, hcy⟩ := Kd.at_int hC y py qy
  cases e2
  rw [Int.toNat_natCast] at hcx hcy
  have hcon := fun W' => cmp_calls (rd l x) (rd l y) W'
  generalize rd l x = u at *
  generalize rd l y = v at *
  generalize compareInt u v = r at *
  replace px := eq_true px
  replace qx := eq_true qx
  replace py := eq_true py
  replace qy := eq_true qy
  clear hC hx hy
  have Hcon := Lib.hid hcon
  clear hcon
  go_enter Try.func30, Try.ntmps30
  go_wp2_with fail
  go_quiet (first | (go_at_call 31; refine Calls.quiet_of_same (Hcon.out _)))
  go_wp2
  go_ret
  exact ⟨rfl, _, rfl⟩
end Go.Proofs.Ytlcghlcpngafgaa
