/- slices.rotateCmpFunc at places: what it makes of the row. -/
import Derived.Test.YtlcghlcpngafgaaStab1
namespace Go.Proofs.Ytlcghlcpngafgaa
open Go.Shelf Go.RowKit Go.Lib Go.Sort Mrg Go.Proofs.YtlcghlcpngafgaaW.PrintWords Go.Proofs.YtlcghlcpngafgaaW.PrintMore
set_option linter.unusedVariables false

set_option maxHeartbeats 4000000 in
set_option maxRecDepth 1000000 in
theorem rotate_calls {m : Nat} (blk cap sz a mm b : Nat) (d : Array (Fin (m + 1))) (w W : World) (c : Value) (hB : Base m w blk sz) (hd : d.size = sz) (hW : At w blk d W) (ham : a < mm) (hmb : mm < b) (hb : b ≤ sz) :
    Calls Try.prog 47 #[.slice (some ⟨blk, 0, none⟩) sz cap, .int .i64 a, .int .i64 mm, .int .i64 b, c] W (Turned w blk sz fun f => Rot (atA d) f a mm b) := by
  have HB := Lib.hid hB; have HW := Lib.hid hW; have HD := Lib.hid hd
  have hs := hB.1
  have e1 : ((mm - a : Nat) : Int) = (mm : Int) - (a : Int) := by omega
  have e2 : ((b - mm : Nat) : Int) = (b : Int) - (mm : Int) := by omega
  have HE1 := Lib.hid e1; have HE2 := Lib.hid e2
  clear hB hW hd e1 e2
  go_enter Try.func47, Try.ntmps47
  go_wp2
  go_loopg [10, 11] b (fun g1 vi vj wr => ∃ (i j : Nat) (dk : Array (Fin (m + 1))), vi = .int .i64 (i : Int) ∧ vj = .int .i64 (j : Int) ∧ 0 < i ∧ 0 < j ∧ i ≤ mm ∧ mm + j ≤ b ∧ i + j ≤ g1 ∧ Hid (dk.size = sz) ∧ Hid (At w blk dk wr) ∧ Hid (∀ f, Rot (atA dk) f (mm - i) mm (mm + j) → Rot (atA d) f a mm b))
  case atStart => exact ⟨mm - a, b - mm, d, by rw [HE1.out], by rw [HE2.out], by omega, by omega, by omega, by omega, by omega, HD.out, HW.out, fun f h => by
    have e1 : mm - (mm - a) = a := by omega
    have e2 : mm + (b - mm) = b := by omega
    rw [e1, e2] at h; exact h⟩
  case round =>
    obtain ⟨i, j, dk, rfl, rfl, hi, hj, him, hjb, hg, HK, HA, HS⟩ := hrel
    have e1 : ((mm - i : Nat) : Int) = (mm : Int) - (i : Int) := by omega
    have HE := Lib.hid e1
    clear e1
    rcases Nat.lt_trichotomy i j with hlt | hlt | hlt
    · have d1 : (((i : Int)) != (j : Int)) = true := by simp; omega
      have d2 : decide ((j : Int) < (i : Int)) = false := decide_eq_false (by omega)
      have hc := swapRange_calls blk cap sz (mm - i) (mm + j - i) i dk w wr c HB.out HK.out HA.out (by omega) (by omega)
      have t1 : ((mm + j - i : Nat) : Int) = (mm : Int) + (j : Int) - (i : Int) := by omega
      rw [t1, HE.out] at hc
      have HC := Lib.hid hc
      clear hc t1
      go_wp2_with (go_at_call 49; (with_reducible refine HC.out.mono ?_); rintro e wn ⟨rfl, dn, hdn, hAn, hRn⟩; have HK2 := Lib.hid hdn; have HA2 := Lib.hid hAn; have HR2 := Lib.hid hRn; clear hdn hAn hRn)
      go_roundg (i + (j - i))
      case measure => omega
      case rel => exact ⟨i, j - i, dn, rfl, by congr 1; omega, hi, by omega, him, by omega, by omega, HK2.out, HA2.out, fun f h => HS.out f (rot_right him hlt HR2.out h)⟩
    · obtain rfl := hlt
      have d1 : (((i : Int)) != (i : Int)) = false := by simp
      have hc := swapRange_calls blk cap sz (mm - i) mm i dk w wr c HB.out HK.out HA.out (by omega) (by omega)
      rw [HE.out] at hc
      have HC := Lib.hid hc
      clear hc
      go_wp2_with (go_at_call 49; (with_reducible refine HC.out.mono ?_); rintro e wn ⟨rfl, dn, hdn, hAn, hRn⟩; have HK2 := Lib.hid hdn; have HA2 := Lib.hid hAn; have HR2 := Lib.hid hRn; clear hdn hAn hRn)
      go_end0
      exact ⟨rfl, dn, HK2.out, HA2.out, HS.out _ (rot_end him HR2.out)⟩
    · have d1 : (((i : Int)) != (j : Int)) = true := by simp; omega
      have d2 : decide ((j : Int) < (i : Int)) = true := decide_eq_true (by omega)
      have hc := swapRange_calls blk cap sz (mm - i) mm j dk w wr c HB.out HK.out HA.out (by omega) (by omega)
      rw [HE.out] at hc
      have HC := Lib.hid hc
      clear hc
      go_wp2_with (go_at_call 49; (with_reducible refine HC.out.mono ?_); rintro e wn ⟨rfl, dn, hdn, hAn, hRn⟩; have HK2 := Lib.hid hdn; have HA2 := Lib.hid hAn; have HR2 := Lib.hid hRn; clear hdn hAn hRn)
      go_roundg (i - j + j)
      case measure => omega
      case rel => exact ⟨i - j, j, dn, by congr 1; omega, rfl, by omega, hj, by omega, hjb, by omega, HK2.out, HA2.out, fun f h => HS.out f (rot_left him hlt HR2.out h)⟩
end Go.Proofs.Ytlcghlcpngafgaa
