/- desk: Waits; Find where both are there. -/
import Derived.Test.YtphaaagcdjpceaaDoorDk6
namespace Go.Proofs.YtphaaagcdjpceaaDoor
open Go.RowKit Go.Extern.Stop Go.Stop Go.Extern Go.Proofs.YtphaaagcdjpceaaDoorW.PrintWords Go.Proofs.YtphaaagcdjpceaaDoorW.PrintLast Go.Proofs.YtphaaagcdjpceaaDoorW.PrintMore
open Go.Maps (Keyed)
set_option linter.unusedVariables false
set_option maxHeartbeats 4000000 in
set_option maxRecDepth 100000 in
theorem waits_yes (d base pg M sb : Nat) (most n : Int) (ps : List S108) (snaps : Int) (cap : Nat) (D : DataW Unit) (p t : Int) (sm : Int) (s : Sn) (w : World) (h : DK w base d pg M most n ps snaps cap D) (hp : (Lit.int .i64 p).wf = true) (hh : hasB ps p t = true) (hs : D.atKey (.int .i64 p) .nil = .lit (.int .i64 (sb : Int)))
    (hS : SS w base sb sm s) (hw : s.wt = true) (hl : s.bs.length ≤ 100000) :
    Calls Tryd.prog 45 #[.pointer (some ⟨d, 0, none⟩), .agg #[.int .i64 p, .int .i64 t]] w fun e w' => ∃ v', e = .returned (.tuple #[v', .bool true]) ∧ Kd.R (Kd.int .u8) 5 w' w.heap.size (fun _ => True) v' s.bs ∧ Below w.heap.size w w' := by
  have B1 := below_alloc (Below.refl w.heap.size w) (.cells #[.int .i64 p, .int .i64 t] 40)
  have HN := Lib.hid (show Hn (w.alloc (.cells #[.int .i64 p, .int .i64 t] 40)) w.heap.size p t from heap_alloc_new w _)
  have HD := Lib.hid (h.below B1)
  have HS := Lib.hid (hS.below B1)
  have HB := Lib.hid B1
  have HA := Lib.hid (And.intro hp (And.intro hh (And.intro hs (And.intro hw hl))))
  clear B1 h hp hh hs hS hw hl
  go_enter Tryd.func45, Tryd.ntmps45
  go_upto_region 1 with (fail)
  generalize w.alloc (.cells #[.int .i64 p, .int .i64 t] 40) = w1 at *
  have q0 := (blk_cell HN.out 0).trans (show _ = some (Value.int .i64 p) from rfl)
  have q1 := (blk_cell HN.out 1).trans (show _ = some (Value.int .i64 t) from rfl)
  go_upto_region 2 with (go_at_call 61; (with_reducible refine (find_yes d base pg M sb most n ps snaps cap D p t _ HD.out HA.out.1 HA.out.2.1 HA.out.2.2.1).mono ?_); rintro e w2 ⟨rfl, hb⟩; have HB2 := Lib.hid (below_step HB.out hb); have HS2 := Lib.hid (HS.out.below hb); clear hb)
  clear q0 q1
  have HD2 := Lib.hid HS2.out.hd
  have s0 := (blk_cell HD2.out 0).trans (show _ = some (Value.bool s.wt) from rfl)
  rw [HA.out.2.2.2.1] at s0
  obtain ⟨A, c, hv⟩ := Kd.R_slice HS2.out.by_
  have s1 := (blk_cell HD2.out 1).trans (show _ = some s.bv from rfl)
  rw [hv] at s1
  have HC := Lib.hid (Kd.R_reads' (hv ▸ HS2.out.by_)).2.2
  go_wp2_with (go_at_call 63; (with_reducible refine (clone_C A c s.bs _ HC.out HA.out.2.2.2.2).mono ?_); rintro e w3 ⟨v', rfl, hr, hb⟩; have HB3 := Lib.hid (below_step HB2.out hb); have HR3 := Lib.hid (Kd.R_lower hr (HB2.out.size)); clear hr hb)
  go_ret2
  exact ⟨_, rfl, HR3.out, HB3.out⟩
set_option maxHeartbeats 4000000 in
set_option maxRecDepth 100000 in
theorem waits_none (d base pg M sb : Nat) (most n : Int) (ps : List S108) (snaps : Int) (cap : Nat) (D : DataW Unit) (p t : Int) (sm : Int) (s : Sn) (w : World) (h : DK w base d pg M most n ps snaps cap D) (hp : (Lit.int .i64 p).wf = true) (hh : hasB ps p t = true) (hs : D.atKey (.int .i64 p) .nil = .lit (.int .i64 (sb : Int)))
    (hS : SS w base sb sm s) (hw : s.wt = false) :
    Calls Tryd.prog 45 #[.pointer (some ⟨d, 0, none⟩), .agg #[.int .i64 p, .int .i64 t]] w fun e w' => e = .returned (.tuple #[.slice none 0 0, .bool false]) ∧ Below w.heap.size w w' := by
  have B1 := below_alloc (Below.refl w.heap.size w) (.cells #[.int .i64 p, .int .i64 t] 40)
  have HN := Lib.hid (show Hn (w.alloc (.cells #[.int .i64 p, .int .i64 t] 40)) w.heap.size p t from heap_alloc_new w _)
  have HD := Lib.hid (h.below B1)
  have HS := Lib.hid (hS.below B1)
  have HB := Lib.hid B1
  have HA := Lib.hid (And.intro hp (And.intro hh (And.intro hs hw)))
  clear B1 h hp hh hs hS hw
  go_enter Tryd.func45, Tryd.ntmps45
  go_upto_region 1 with (fail)
  generalize w.alloc (.cells #[.int .i64 p, .int .i64 t] 40) = w1 at *
  have q0 := (blk_cell HN.out 0).trans (show _ = some (Value.int .i64 p) from rfl)
  have q1 := (blk_cell HN.out 1).trans (show _ = some (Value.int .i64 t) from rfl)
  go_upto_region 2 with (go_at_call 61; (with_reducible refine (find_yes d base pg M sb most n ps snaps cap D p t _ HD.out HA.out.1 HA.out.2.1 HA.out.2.2.1).mono ?_); rintro e w2 ⟨rfl, hb⟩; have HB2 := Lib.hid (below_step HB.out hb); have HS2 := Lib.hid (HS.out.below hb); clear hb)
  clear q0 q1
  have s0 := (blk_cell HS2.out.hd 0).trans (show _ = some (Value.bool s.wt) from rfl)
  rw [HA.out.2.2.2] at s0
  go_wp2_with (fail)
  go_ret2
  exact ⟨rfl, HB2.out⟩
end Go.Proofs.YtphaaagcdjpceaaDoor
