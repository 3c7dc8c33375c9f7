/- desk: calls of a handle that is not there: Take, Find, Keep. -/
import Derived.Test.YtphaaagcdjpceaaDoorDk12
namespace Go.Proofs.YtphaaagcdjpceaaDoor
open Go.RowKit Go.Extern.Stop Go.Stop Go.Extern Go.Proofs.YtphaaagcdjpceaaDoorW.PrintWords Go.Proofs.YtphaaagcdjpceaaDoorW.PrintLast Go.Proofs.YtphaaagcdjpceaaDoorW.PrintMore
open Go.Maps (Keyed)
set_option linter.unusedVariables false
set_option maxHeartbeats 4000000 in
set_option maxRecDepth 100000 in
theorem takes_no (d base pg M : Nat) (most n : Int) (ps : List S108) (snaps : Int) (cap : Nat) (D : DataW Unit) (p t : Int) (w : World) (hG : Good w) (h : DK w base d pg M most n ps snaps cap D) (hp : -9223372036854775808 ≤ p ∧ p ≤ 9223372036854775807) (hh : hasB ps p t = false) :
    Calls Tryd.prog 49 #[.pointer (some ⟨d, 0, none⟩), .agg #[.int .i64 p, .int .i64 t]] w fun e w' => ∃ k, e = .returned (.tuple #[.slice none 0 0, .iface 179 (.pointer (some ⟨k, 0, none⟩))]) ∧ Joined w' k 3 ∧ Below w.heap.size w w' := by
  have B1 := below_alloc (Below.refl w.heap.size w) (.cells #[.int .i64 p, .int .i64 t] 40)
  have HN := Lib.hid (show Hn (w.alloc (.cells #[.int .i64 p, .int .i64 t] 40)) w.heap.size p t from heap_alloc_new w _)
  have HD := Lib.hid (h.below B1)
  have HG := Lib.hid (hG.below B1)
  have HB := Lib.hid B1
  have HA := Lib.hid (And.intro hp hh)
  clear B1 h hp hh hG
  go_enter Tryd.func49, Tryd.ntmps49
  go_upto_region 1 with (fail)
  generalize w.alloc (.cells #[.int .i64 p, .int .i64 t] 40) = w1 at *
  have q0 := (blk_cell HN.out 0).trans (show _ = some (Value.int .i64 p) from rfl)
  have q1 := (blk_cell HN.out 1).trans (show _ = some (Value.int .i64 t) from rfl)
  go_wp2_with (go_at_call 61; (with_reducible refine (find_no d base pg M most n ps snaps cap D p t _ HG.out HD.out HA.out.1 HA.out.2).mono ?_); rintro e w2 ⟨k, rfl, hj, hb⟩; have HJ := Lib.hid hj; have HB2 := Lib.hid (below_step HB.out hb); clear hb hj)
  go_ret2
  exact ⟨_, rfl, HJ.out, HB2.out⟩
set_option maxHeartbeats 4000000 in
set_option maxRecDepth 100000 in
theorem finds_no (d base pg M : Nat) (most n : Int) (ps : List S108) (snaps : Int) (cap : Nat) (D : DataW Unit) (p t : Int) (w : World) (hG : Good w) (h : DK w base d pg M most n ps snaps cap D) (hp : -9223372036854775808 ≤ p ∧ p ≤ 9223372036854775807) (hh : hasB ps p t = false) (p2 t2 : Int) :
    Calls Tryd.prog 47 #[.pointer (some ⟨d, 0, none⟩), .agg #[.int .i64 p, .int .i64 t], .agg #[.int .i64 p2, .int .i64 t2]] w fun e w' => ∃ k, e = .returned (.tuple #[.int .i64 0, .iface 179 (.pointer (some ⟨k, 0, none⟩))]) ∧ Joined w' k 3 ∧ Below w.heap.size w w' := by
  obtain ⟨B1, hN, hR⟩ := two40 w (.int .i64 p) (.int .i64 t) (.int .i64 p2) (.int .i64 t2)
  have HN := Lib.hid (show Hn ((w.alloc (.cells #[.int .i64 p, .int .i64 t] 40)).alloc (.cells #[.int .i64 p2, .int .i64 t2] 40)) w.heap.size p t from hN)
  have HR := Lib.hid (show Hn ((w.alloc (.cells #[.int .i64 p, .int .i64 t] 40)).alloc (.cells #[.int .i64 p2, .int .i64 t2] 40)) (w.heap.size + 1) p2 t2 from hR)
  have HD := Lib.hid (h.below B1)
  have HG := Lib.hid (hG.below B1)
  have HB := Lib.hid B1
  have HA := Lib.hid (And.intro hp hh)
  clear B1 hN hR h hp hh hG
  go_enter Tryd.func47, Tryd.ntmps47
  go_upto_region 1 with (fail)
  generalize (w.alloc (.cells #[.int .i64 p, .int .i64 t] 40)).alloc (.cells #[.int .i64 p2, .int .i64 t2] 40) = w1 at *
  have q0 := (blk_cell HN.out 0).trans (show _ = some (Value.int .i64 p) from rfl)
  have q1 := (blk_cell HN.out 1).trans (show _ = some (Value.int .i64 t) from rfl)
  go_wp2_with (go_at_call 61; (with_reducible refine (find_no d base pg M most n ps snaps cap D p t _ HG.out HD.out HA.out.1 HA.out.2).mono ?_); rintro e w2 ⟨k, rfl, hj, hb⟩; have HJ := Lib.hid hj; have HB2 := Lib.hid (below_step HB.out hb); clear hb hj)
  go_ret2
  exact ⟨_, rfl, HJ.out, HB2.out⟩
set_option maxHeartbeats 4000000 in
set_option maxRecDepth 100000 in
theorem keep_no (d base pg M : Nat) (most n : Int) (ps : List S108) (snaps : Int) (cap : Nat) (D : DataW Unit) (p t : Int) (w : World) (hG : Good w) (h : DK w base d pg M most n ps snaps cap D) (hp : -9223372036854775808 ≤ p ∧ p ≤ 9223372036854775807) (hh : hasB ps p t = false) (r : Int) :
    Calls Tryd.prog 42 #[.pointer (some ⟨d, 0, none⟩), .agg #[.int .i64 p, .int .i64 t], .int .i64 r] w fun e w' => ∃ k, e = .returned (.tuple #[.agg #[.int .i64 0, .int .i64 0], .iface 179 (.pointer (some ⟨k, 0, none⟩))]) ∧ Joined w' k 3 ∧ Below w.heap.size w w' := by
  obtain ⟨B1, hN, hR⟩ := two40 w (.int .i64 p) (.int .i64 t) (.int .i64 0) (.int .i64 0)
  have HN := Lib.hid (show Hn ((w.alloc (.cells #[.int .i64 p, .int .i64 t] 40)).alloc (.cells #[.int .i64 0, .int .i64 0] 40)) w.heap.size p t from hN)
  have HR := Lib.hid (show Hn ((w.alloc (.cells #[.int .i64 p, .int .i64 t] 40)).alloc (.cells #[.int .i64 0, .int .i64 0] 40)) (w.heap.size + 1) 0 0 from hR)
  have HD := Lib.hid (h.below B1)
  have HG := Lib.hid (hG.below B1)
  have HB := Lib.hid B1
  have HA := Lib.hid (And.intro hp hh)
  clear B1 hN hR h hp hh hG
  go_enter Tryd.func42, Tryd.ntmps42
  go_upto_region 1 with (fail)
  generalize (w.alloc (.cells #[.int .i64 p, .int .i64 t] 40)).alloc (.cells #[.int .i64 0, .int .i64 0] 40) = w1 at *
  have q0 := (blk_cell HN.out 0).trans (show _ = some (Value.int .i64 p) from rfl)
  have q1 := (blk_cell HN.out 1).trans (show _ = some (Value.int .i64 t) from rfl)
  go_upto_region 3 with (go_at_call 61; (with_reducible refine (find_no d base pg M most n ps snaps cap D p t _ HG.out HD.out HA.out.1 HA.out.2).mono ?_); rintro e w2 ⟨k, rfl, hj, hb⟩; have HJ := Lib.hid hj; have HB2 := Lib.hid (below_step HB.out hb); have HR2 := Lib.hid (show Hn w2 (w.heap.size + 1) 0 0 from blk_below HR.out hb); clear hb hj)
  have hn4 := HR2.out
  have z4 := (blk_cell hn4 0).trans (show _ = some (Value.int .i64 0) from rfl)
  have z5 := (blk_cell hn4 1).trans (show _ = some (Value.int .i64 0) from rfl)
  have u0 : w2.frozen? ⟨w.heap.size + 1, 0, none⟩ = false := blk_frozen hn4 0
  have u1 : w2.frozen? ⟨w.heap.size + 1, 1, none⟩ = false := blk_frozen hn4 1
  have HJ5 := Lib.hid (HJ.out.keeps ((((Keeps.refl [40] w2).set hn4 (by decide) 0 (.int .i64 0))).set (blk_set hn4 0 _) (by decide) 1 (.int .i64 0)) ⟨by decide, by decide⟩)
  have HB5 : Hid (Below w.heap.size w ((w2.setCell ⟨w.heap.size + 1, 0, none⟩ (.int .i64 0)).setCell ⟨w.heap.size + 1, 1, none⟩ (.int .i64 0))) := (HB2.out.setCell (p := ⟨w.heap.size + 1, 0, none⟩) (Nat.le_succ _) _).setCell (p := ⟨w.heap.size + 1, 1, none⟩) (Nat.le_succ _) _
  have r0 := (blk_cell (blk_set (blk_set hn4 0 (.int .i64 0)) 1 (.int .i64 0)) 0).trans (show _ = some (Value.int .i64 0) from rfl)
  have r1 := (blk_cell (blk_set (blk_set hn4 0 (.int .i64 0)) 1 (.int .i64 0)) 1).trans (show _ = some (Value.int .i64 0) from rfl)
  clear hn4
  go_wp2_with (fail)
  exact bodyPost_ret (v := .tuple #[.agg #[.int .i64 0, .int .i64 0], .iface 179 (.pointer (some ⟨k, 0, none⟩))]) (by simp [results, Tryd.results42, go_sem, r0, r1]) rfl ⟨k, rfl, HJ5.out, HB5.out⟩
end Go.Proofs.YtphaaagcdjpceaaDoor
