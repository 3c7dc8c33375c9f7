/- desk: Open where all is taken; Send where something waits; Take; sameInts. -/
import Derived.Test.YtphaaagcdjpceaaDoorDk10
namespace Go.Proofs.YtphaaagcdjpceaaDoor
open Go.RowKit Go.Extern.Stop Go.Stop Go.Extern Go.Proofs.YtphaaagcdjpceaaDoorW.PrintWords Go.Proofs.YtphaaagcdjpceaaDoorW.PrintLast Go.Proofs.YtphaaagcdjpceaaDoorW.PrintMore
open Go.Maps (Keyed)
set_option linter.unusedVariables false
theorem i64_bd {x : Int} (h : (Lit.int .i64 x).wf = true) : -9223372036854775808 ≤ x ∧ x ≤ 9223372036854775807 := i64_of_wf h
set_option maxHeartbeats 4000000 in
set_option maxRecDepth 100000 in
theorem send_busy (d base pg M sb : Nat) (most n : Int) (ps : List S108) (snaps : Int) (cap : Nat) (D : DataW Unit) (p t : Int) (sm : Int) (s : Sn) (w : World) (h : DK w base d pg M most n ps snaps cap D) (hp : (Lit.int .i64 p).wf = true) (hh : hasB ps p t = true) (hs : D.atKey (.int .i64 p) .nil = .lit (.int .i64 (sb : Int)))
    (hS : SS w base sb sm s) (hG : Good w) (hw : s.wt = true) (A : Option Addr) (m c : Nat) (hl : m ≤ 100000) :
    Calls Tryd.prog 41 #[.pointer (some ⟨d, 0, none⟩), .agg #[.int .i64 p, .int .i64 t], .slice A m c] w fun e w' => ∃ k, e = .returned (.iface 179 (.pointer (some ⟨k, 0, none⟩))) ∧ Joined w' k 17 ∧ Below w.heap.size w w' := by
  have B1 := below_alloc (Below.refl w.heap.size w) (.cells #[.int .i64 p, .int .i64 t] 40)
  have HN := Lib.hid (show Hn (w.alloc (.cells #[.int .i64 p, .int .i64 t] 40)) w.heap.size p t from heap_alloc_new w _)
  have HD := Lib.hid (h.below B1)
  have HS := Lib.hid (hS.below B1)
  have HG := Lib.hid (hG.below B1)
  have HB := Lib.hid B1
  have HA := Lib.hid (And.intro hp (And.intro hh (And.intro hs (And.intro hw hl))))
  have HLT := Lib.hid (And.intro (show sb < w.heap.size from blk_lt hS.hd) hS.lo.1)
  clear B1 h hp hh hs hS hw hl hG
  go_enter Tryd.func41, Tryd.ntmps41
  go_upto_region 1 with (fail)
  generalize w.alloc (.cells #[.int .i64 p, .int .i64 t] 40) = w1 at *
  have q0 := (blk_cell HN.out 0).trans (show _ = some (Value.int .i64 p) from rfl)
  have q1 := (blk_cell HN.out 1).trans (show _ = some (Value.int .i64 t) from rfl)
  have b1 : decide (100000 < (m : Int)) = false := decide_eq_false (by have := HA.out.2.2.2.2; omega)
  have b1' : decide (100000 < m) = false := decide_eq_false (by have := HA.out.2.2.2.2; omega)
  go_upto_region 6 with (go_at_call 61; (with_reducible refine (find_yes d base pg M sb most n ps snaps cap D p t _ HD.out HA.out.1 HA.out.2.1 HA.out.2.2.1).mono ?_); rintro e w2 ⟨rfl, hb⟩; have HB2 := Lib.hid (below_step HB.out hb); have HS2 := Lib.hid (HS.out.below hb); have HN2 := Lib.hid (show Hn w2 w.heap.size p t from blk_below HN.out hb); have HG2 := Lib.hid (HG.out.below hb); clear hb)
  clear q0 q1
  have s0 := (blk_cell HS2.out.hd 0).trans (show _ = some (Value.bool s.wt) from rfl)
  rw [HA.out.2.2.2.1] at s0
  have q0 := (blk_cell HN2.out 0).trans (show _ = some (Value.int .i64 p) from rfl)
  have q1 := (blk_cell HN2.out 1).trans (show _ = some (Value.int .i64 t) from rfl)
  go_wp2_with (go_at_call 62; (with_reducible refine (wrongd_calls 17 p t _ HG2.out (i64_bd HA.out.1)).mono ?_); rintro e w3 ⟨k, rfl, hj, hb⟩; have HJ := Lib.hid hj; have HB3 := Lib.hid (below_step HB2.out hb); clear hj hb)
  go_ret
  exact ⟨_, rfl, HJ.out, HB3.out⟩
set_option maxHeartbeats 4000000 in
set_option maxRecDepth 100000 in
theorem takes_idle (d base pg M sb : Nat) (most n : Int) (ps : List S108) (snaps : Int) (cap : Nat) (D : DataW Unit) (p t : Int) (sm : Int) (s : Sn) (w : World) (h : DK w base d pg M most n ps snaps cap D) (hp : (Lit.int .i64 p).wf = true) (hh : hasB ps p t = true) (hs : D.atKey (.int .i64 p) .nil = .lit (.int .i64 (sb : Int)))
    (hS : SS w base sb sm s) (hG : Good w) (hw : s.wt = false) :
    Calls Tryd.prog 49 #[.pointer (some ⟨d, 0, none⟩), .agg #[.int .i64 p, .int .i64 t]] w fun e w' => ∃ k, e = .returned (.tuple #[.slice none 0 0, .iface 179 (.pointer (some ⟨k, 0, none⟩))]) ∧ Joined w' k 18 ∧ Below w.heap.size w w' := by
  have B1 := below_alloc (Below.refl w.heap.size w) (.cells #[.int .i64 p, .int .i64 t] 40)
  have HN := Lib.hid (show Hn (w.alloc (.cells #[.int .i64 p, .int .i64 t] 40)) w.heap.size p t from heap_alloc_new w _)
  have HD := Lib.hid (h.below B1)
  have HS := Lib.hid (hS.below B1)
  have HG := Lib.hid (hG.below B1)
  have HB := Lib.hid B1
  have HA := Lib.hid (And.intro hp (And.intro hh (And.intro hs hw)))
  have HLT := Lib.hid (And.intro (show sb < w.heap.size from blk_lt hS.hd) hS.lo.1)
  clear B1 h hp hh hs hS hw hG
  go_enter Tryd.func49, Tryd.ntmps49
  go_upto_region 1 with (fail)
  generalize w.alloc (.cells #[.int .i64 p, .int .i64 t] 40) = w1 at *
  have q0 := (blk_cell HN.out 0).trans (show _ = some (Value.int .i64 p) from rfl)
  have q1 := (blk_cell HN.out 1).trans (show _ = some (Value.int .i64 t) from rfl)
  go_upto_region 4 with (go_at_call 61; (with_reducible refine (find_yes d base pg M sb most n ps snaps cap D p t _ HD.out HA.out.1 HA.out.2.1 HA.out.2.2.1).mono ?_); rintro e w2 ⟨rfl, hb⟩; have HB2 := Lib.hid (below_step HB.out hb); have HS2 := Lib.hid (HS.out.below hb); have HN2 := Lib.hid (show Hn w2 w.heap.size p t from blk_below HN.out hb); have HG2 := Lib.hid (HG.out.below hb); clear hb)
  clear q0 q1
  have s0 := (blk_cell HS2.out.hd 0).trans (show _ = some (Value.bool s.wt) from rfl)
  rw [HA.out.2.2.2] at s0
  have q0 := (blk_cell HN2.out 0).trans (show _ = some (Value.int .i64 p) from rfl)
  have q1 := (blk_cell HN2.out 1).trans (show _ = some (Value.int .i64 t) from rfl)
  go_wp2_with (go_at_call 62; (with_reducible refine (wrongd_calls 18 p t _ HG2.out (i64_bd HA.out.1)).mono ?_); rintro e w3 ⟨k, rfl, hj, hb⟩; have HJ := Lib.hid hj; have HB3 := Lib.hid (below_step HB2.out hb); clear hj hb)
  go_ret2
  exact ⟨_, rfl, HJ.out, HB3.out⟩
set_option maxHeartbeats 4000000 in
set_option maxRecDepth 100000 in
theorem takes_yes (d base pg M sb : Nat) (most n : Int) (ps : List S108) (snaps : Int) (cap : Nat) (D : DataW Unit) (p t : Int) (sm : Int) (s : Sn) (w : World) (h : DK w base d pg M most n ps snaps cap D) (hp : (Lit.int .i64 p).wf = true) (hh : hasB ps p t = true) (hs : D.atKey (.int .i64 p) .nil = .lit (.int .i64 (sb : Int)))
    (hS : SS w base sb sm s) (hw : s.wt = true) :
    Calls Tryd.prog 49 #[.pointer (some ⟨d, 0, none⟩), .agg #[.int .i64 p, .int .i64 t]] w fun e w' => e = .returned (.tuple #[s.bv, .nilIface]) ∧ SS w' base sb sm { s with wt := false, bv := .slice none 0 0, bs := [] } ∧ Kd.R (Kd.int .u8) 5 w' base (fun _ => True) s.bv s.bs ∧ SF sb w w' ∧ Below base w w' := by
  have B1 := below_alloc (Below.refl w.heap.size w) (.cells #[.int .i64 p, .int .i64 t] 40)
  have HN := Lib.hid (show Hn (w.alloc (.cells #[.int .i64 p, .int .i64 t] 40)) w.heap.size p t from heap_alloc_new w _)
  have HD := Lib.hid (h.below B1)
  have HS := Lib.hid (hS.below B1)
  have HB := Lib.hid B1
  have HA := Lib.hid (And.intro hp (And.intro hh (And.intro hs hw)))
  have HLT := Lib.hid (And.intro (show sb < w.heap.size from blk_lt hS.hd) hS.lo.1)
  clear B1 h hp hh hs hS hw
  go_enter Tryd.func49, Tryd.ntmps49
  go_upto_region 1 with (fail)
  generalize w.alloc (.cells #[.int .i64 p, .int .i64 t] 40) = w1 at *
  have q0 := (blk_cell HN.out 0).trans (show _ = some (Value.int .i64 p) from rfl)
  have q1 := (blk_cell HN.out 1).trans (show _ = some (Value.int .i64 t) from rfl)
  go_upto_region 4 with (go_at_call 61; (with_reducible refine (find_yes d base pg M sb most n ps snaps cap D p t _ HD.out HA.out.1 HA.out.2.1 HA.out.2.2.1).mono ?_); rintro e w2 ⟨rfl, hb⟩; have HB2 := Lib.hid (below_step HB.out hb); have HS2 := Lib.hid (HS.out.below hb); have HN2 := Lib.hid (show Hn w2 w.heap.size p t from blk_below HN.out hb); clear hb)
  clear q0 q1
  have s0 := (blk_cell HS2.out.hd 0).trans (show _ = some (Value.bool s.wt) from rfl)
  rw [HA.out.2.2.2] at s0
  have q0 := (blk_cell HN2.out 0).trans (show _ = some (Value.int .i64 p) from rfl)
  have q1 := (blk_cell HN2.out 1).trans (show _ = some (Value.int .i64 t) from rfl)
  obtain ⟨A, c, hv⟩ := Kd.R_slice HS2.out.by_
  have s1 := (blk_cell HS2.out.hd 1).trans (show _ = some s.bv from rfl)
  rw [hv] at s1
  have z0 := blk_frozen HS2.out.hd 0
  have z1 := blk_frozen HS2.out.hd 1
  have hlt := HLT.out
  have hs2 := HB2.out.size
  have HFIN := Lib.hid (HS2.out.bytes (Kd.R_nil (Kd.int .u8) 5 w2 w2.heap.size (fun _ => True)) (by omega) (by omega) false)
  have hne : ∀ k, k ≠ sb → ((w2.setCell ⟨sb, 0, none⟩ (.bool false)).setCell ⟨sb, 1, none⟩ (.slice none 0 0)).heap[k]? = w2.heap[k]? := fun k hk => (Below.heap_setCell _ ⟨sb, 1, none⟩ _ k hk).trans (Below.heap_setCell w2 ⟨sb, 0, none⟩ _ k hk)
  have HRF := Lib.hid (R_same (W1 := (w2.setCell ⟨sb, 0, none⟩ (.bool false)).setCell ⟨sb, 1, none⟩ (.slice none 0 0)) HS2.out.by_ rfl (fun k hk => hne k (by rintro rfl; exact HS2.out.apart.2.2.2 hk)))
  have HBL := Lib.hid (((HB2.out.mono (show base ≤ w.heap.size by omega)).setCell (p := ⟨sb, 0, none⟩) hlt.2 (.bool false)).setCell (p := ⟨sb, 1, none⟩) hlt.2 (.slice none 0 0))
  have HSF := Lib.hid (((SF.of_below (sb := sb) HB2.out).trans (SF.set sb 0 w2 (.bool false))).trans (SF.set sb 1 _ (.slice none 0 0)))
  clear hne hlt hs2
  go_wp2_with (fail)
  go_ret2
  exact ⟨by rw [hv]; rfl, HFIN.out, HRF.out, HSF.out, HBL.out⟩
set_option maxHeartbeats 4000000 in
set_option maxRecDepth 100000 in
theorem open_full (d base pg M : Nat) (n : Int) (ps : List S108) (snaps : Int) (cap : Nat) (D : DataW Unit) (i : Nat) (w : World) (hG : Good w) (h : DK w base d pg M (i : Int) n ps snaps cap D) (hi : i ≤ ps.length) (hf : ∀ j, j < i → (plc ps j).f1 = true) (hf2 : i < ps.length → (plc ps i).f1 = false) (hl : ps.length ≤ 1000) :
    Calls Tryd.prog 40 #[.pointer (some ⟨d, 0, none⟩)] w fun e w' => ∃ k, e = .returned (.tuple #[.agg #[.int .i64 0, .int .i64 0], .iface 179 (.pointer (some ⟨k, 0, none⟩))]) ∧ Joined w' k 2 ∧ Below w.heap.size w w' := by
  have B1 := below_alloc (Below.refl w.heap.size w) (.cells #[.int .i64 0, .int .i64 0] 40)
  have HN := Lib.hid (show Hn (w.alloc (.cells #[.int .i64 0, .int .i64 0] 40)) w.heap.size 0 0 from heap_alloc_new w _)
  have HD := Lib.hid (h.below B1)
  have HG := Lib.hid (hG.below B1)
  have HB := Lib.hid B1
  have HA := Lib.hid (And.intro hi (And.intro hf (And.intro hf2 hl)))
  clear B1 h hi hf hf2 hl hG
  have q0 := (blk_cell HD.out.hd 0).trans (show _ = some (Value.pointer (some ⟨pg, 0, none⟩)) from rfl)
  go_enter Tryd.func40, Tryd.ntmps40
  go_upto_region 1 with (fail)
  generalize w.alloc (.cells #[.int .i64 0, .int .i64 0] 40) = w1 at *
  go_upto_region 2 with (go_at_call 16; (with_reducible refine (take_full pg base n ps i _ HG.out HD.out.pl HA.out.1 HA.out.2.1 HA.out.2.2.1 HA.out.2.2.2).mono ?_); rintro e w2 ⟨k, rfl, hj, hb⟩; have HJ := Lib.hid hj; have HB2 := Lib.hid (below_step HB.out hb); have HN2 := Lib.hid (show Hn w2 w.heap.size 0 0 from blk_below HN.out hb); clear hj hb)
  have B4 := below_alloc (Below.refl w2.heap.size w2) (.cells #[.int .i64 0, .int .i64 0] 40)
  have HJ4 := Lib.hid (HJ.out.below B4)
  have HB4 := Lib.hid (below_step HB2.out B4)
  have HN4 := Lib.hid (blk_below HN2.out B4)
  clear B4
  go_upto_region 3 with (fail)
  generalize w2.alloc (.cells #[.int .i64 0, .int .i64 0] 40) = w4 at *
  have hn4 := HN4.out
  have z4 := (blk_cell hn4 0).trans (show _ = some (Value.int .i64 0) from rfl)
  have z5 := (blk_cell hn4 1).trans (show _ = some (Value.int .i64 0) from rfl)
  have u0 : w4.frozen? ⟨w.heap.size, 0, none⟩ = false := blk_frozen hn4 0
  have u1 : w4.frozen? ⟨w.heap.size, 1, none⟩ = false := blk_frozen hn4 1
  have HJ5 := Lib.hid (HJ4.out.keeps ((((Keeps.refl [40] w4).set hn4 (by decide) 0 (.int .i64 0))).set (blk_set hn4 0 _) (by decide) 1 (.int .i64 0)) ⟨by decide, by decide⟩)
  have HB5 : Hid (Below w.heap.size w ((w4.setCell ⟨w.heap.size, 0, none⟩ (.int .i64 0)).setCell ⟨w.heap.size, 1, none⟩ (.int .i64 0))) := (HB4.out.setCell (p := ⟨w.heap.size, 0, none⟩) (Nat.le_refl _) _).setCell (p := ⟨w.heap.size, 1, none⟩) (Nat.le_refl _) _
  have r0 := (blk_cell (blk_set (blk_set hn4 0 (.int .i64 0)) 1 (.int .i64 0)) 0).trans (show _ = some (Value.int .i64 0) from rfl)
  have r1 := (blk_cell (blk_set (blk_set hn4 0 (.int .i64 0)) 1 (.int .i64 0)) 1).trans (show _ = some (Value.int .i64 0) from rfl)
  clear hn4
  go_wp2_with (fail)
  exact bodyPost_ret (v := .tuple #[.agg #[.int .i64 0, .int .i64 0], .iface 179 (.pointer (some ⟨k, 0, none⟩))]) (by simp [results, Tryd.results40, go_sem, r0, r1]) rfl ⟨k, rfl, HJ5.out, HB5.out⟩
end Go.Proofs.YtphaaagcdjpceaaDoor
