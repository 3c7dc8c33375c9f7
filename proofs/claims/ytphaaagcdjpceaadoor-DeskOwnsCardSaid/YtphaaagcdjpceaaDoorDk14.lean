/- desk: Keep where all places of a session are taken; Find where the snapshot is not there. -/
import Derived.Test.YtphaaagcdjpceaaDoorDk13
namespace Go.Proofs.YtphaaagcdjpceaaDoor
open Go.RowKit Go.Extern.Stop Go.Stop Go.Extern Go.Proofs.YtphaaagcdjpceaaDoorW.PrintWords Go.Proofs.YtphaaagcdjpceaaDoorW.PrintLast Go.Proofs.YtphaaagcdjpceaaDoorW.PrintMore
open Go.Maps (Keyed)
set_option linter.unusedVariables false
set_option maxHeartbeats 8000000 in
set_option maxRecDepth 100000 in
theorem keep_full (d base pg M sb : Nat) (most n : Int) (ps : List S108) (snaps : Int) (cap : Nat) (D : DataW Unit) (p t : Int) (s : Sn) (r : Int) (i : Nat) (w : World) (hG : Good w) (h : DK w base d pg M most n ps snaps cap D) (hp : (Lit.int .i64 p).wf = true) (hh : hasB ps p t = true) (hs : D.atKey (.int .i64 p) .nil = .lit (.int .i64 (sb : Int)))
    (hS : SS w base sb (i : Int) s) (hi : i ≤ s.ps.length) (hf : ∀ j, j < i → (plc s.ps j).f1 = true) (hf2 : i < s.ps.length → (plc s.ps i).f1 = false) (hl : s.ps.length ≤ 1000) :
    Calls Tryd.prog 42 #[.pointer (some ⟨d, 0, none⟩), .agg #[.int .i64 p, .int .i64 t], .int .i64 r] w fun e w' => ∃ k, e = .returned (.tuple #[.agg #[.int .i64 0, .int .i64 0], .iface 179 (.pointer (some ⟨k, 0, none⟩))]) ∧ Joined w' k 2 ∧ Below w.heap.size w w' := by
  obtain ⟨B1, hN, hR⟩ := two40 w (.int .i64 p) (.int .i64 t) (.int .i64 0) (.int .i64 0)
  have HN := Lib.hid (show Hn ((w.alloc (.cells #[.int .i64 p, .int .i64 t] 40)).alloc (.cells #[.int .i64 0, .int .i64 0] 40)) w.heap.size p t from hN)
  have HR := Lib.hid (show Hn ((w.alloc (.cells #[.int .i64 p, .int .i64 t] 40)).alloc (.cells #[.int .i64 0, .int .i64 0] 40)) (w.heap.size + 1) 0 0 from hR)
  have HD := Lib.hid (h.below B1)
  have HS := Lib.hid (hS.below B1)
  have HG := Lib.hid (hG.below B1)
  have HB := Lib.hid B1
  have HA := Lib.hid (And.intro hp (And.intro hh hs))
  have HT := Lib.hid (And.intro hi (And.intro hf (And.intro hf2 hl)))
  clear B1 hN hR h hp hh hs hS hi hf hf2 hl hG
  go_enter Tryd.func42, Tryd.ntmps42
  go_upto_region 1 with (fail)
  generalize (w.alloc (.cells #[.int .i64 p, .int .i64 t] 40)).alloc (.cells #[.int .i64 0, .int .i64 0] 40) = w1 at *
  have q0 := (blk_cell HN.out 0).trans (show _ = some (Value.int .i64 p) from rfl)
  have q1 := (blk_cell HN.out 1).trans (show _ = some (Value.int .i64 t) from rfl)
  go_upto_region 4 with (go_at_call 61; (with_reducible refine (find_yes d base pg M sb most n ps snaps cap D p t _ HD.out HA.out.1 HA.out.2.1 HA.out.2.2).mono ?_); rintro e w2 ⟨rfl, hb⟩; have HB2 := Lib.hid (below_step HB.out hb); have HS2 := Lib.hid (HS.out.below hb); have HG2 := Lib.hid (HG.out.below hb); have HR2 := Lib.hid (show Hn w2 (w.heap.size + 1) 0 0 from blk_below HR.out hb); clear hb)
  clear q0 q1
  have s2 := (blk_cell HS2.out.hd 2).trans (show _ = some (Value.pointer (some ⟨s.sg, 0, none⟩)) from rfl)
  go_upto_region 5 with (go_at_call 16; (with_reducible refine (take_full s.sg base s.n s.ps i _ HG2.out HS2.out.pl HT.out.1 HT.out.2.1 HT.out.2.2.1 HT.out.2.2.2).mono ?_); rintro e w3 ⟨k, rfl, hj, hb⟩; have HJ := Lib.hid hj; have HB3 := Lib.hid (below_step HB2.out hb); have HR3 := Lib.hid (show Hn w3 (w.heap.size + 1) 0 0 from blk_below HR2.out hb); clear hj hb)
  have B4 := below_alloc (Below.refl w3.heap.size w3) (.cells #[.int .i64 0, .int .i64 0] 40)
  have HJ4 := Lib.hid (HJ.out.below B4)
  have HB4 := Lib.hid (below_step HB3.out B4)
  have HN4 := Lib.hid (blk_below HR3.out B4)
  clear B4 s2
  go_upto_region 6 with (fail)
  generalize w3.alloc (.cells #[.int .i64 0, .int .i64 0] 40) = w4 at *
  have hn4 := HN4.out
  have z4 := (blk_cell hn4 0).trans (show _ = some (Value.int .i64 0) from rfl)
  have z5 := (blk_cell hn4 1).trans (show _ = some (Value.int .i64 0) from rfl)
  have u0 : w4.frozen? ⟨w.heap.size + 1, 0, none⟩ = false := blk_frozen hn4 0
  have u1 : w4.frozen? ⟨w.heap.size + 1, 1, none⟩ = false := blk_frozen hn4 1
  have HJ5 := Lib.hid (HJ4.out.keeps ((((Keeps.refl [40] w4).set hn4 (by decide) 0 (.int .i64 0))).set (blk_set hn4 0 _) (by decide) 1 (.int .i64 0)) ⟨by decide, by decide⟩)
  have HB5 : Hid (Below w.heap.size w ((w4.setCell ⟨w.heap.size + 1, 0, none⟩ (.int .i64 0)).setCell ⟨w.heap.size + 1, 1, none⟩ (.int .i64 0))) := (HB4.out.setCell (p := ⟨w.heap.size + 1, 0, none⟩) (Nat.le_succ _) _).setCell (p := ⟨w.heap.size + 1, 1, none⟩) (Nat.le_succ _) _
  have r0 := (blk_cell (blk_set (blk_set hn4 0 (.int .i64 0)) 1 (.int .i64 0)) 0).trans (show _ = some (Value.int .i64 0) from rfl)
  have r1 := (blk_cell (blk_set (blk_set hn4 0 (.int .i64 0)) 1 (.int .i64 0)) 1).trans (show _ = some (Value.int .i64 0) from rfl)
  clear hn4
  go_wp2_with (fail)
  exact bodyPost_ret (v := .tuple #[.agg #[.int .i64 0, .int .i64 0], .iface 179 (.pointer (some ⟨k, 0, none⟩))]) (by simp [results, Tryd.results42, go_sem, r0, r1]) rfl ⟨k, rfl, HJ5.out, HB5.out⟩
set_option maxHeartbeats 8000000 in
set_option maxRecDepth 100000 in
theorem find_gone (d base pg M sb : Nat) (most n : Int) (ps : List S108) (snaps : Int) (cap : Nat) (D : DataW Unit) (p t : Int) (sm : Int) (s : Sn) (p2 t2 : Int) (w : World) (hG : Good w) (h : DK w base d pg M most n ps snaps cap D) (hp : (Lit.int .i64 p).wf = true) (hh : hasB ps p t = true) (hs : D.atKey (.int .i64 p) .nil = .lit (.int .i64 (sb : Int)))
    (hS : SS w base sb sm s) (hh2 : hasB s.ps p2 t2 = false) :
    Calls Tryd.prog 47 #[.pointer (some ⟨d, 0, none⟩), .agg #[.int .i64 p, .int .i64 t], .agg #[.int .i64 p2, .int .i64 t2]] w fun e w' => ∃ k, e = .returned (.tuple #[.int .i64 0, .iface 179 (.pointer (some ⟨k, 0, none⟩))]) ∧ Joined w' k 3 ∧ Below w.heap.size w w' := by
  obtain ⟨B1, hN, hR⟩ := two40 w (.int .i64 p) (.int .i64 t) (.int .i64 p2) (.int .i64 t2)
  have HN := Lib.hid (show Hn ((w.alloc (.cells #[.int .i64 p, .int .i64 t] 40)).alloc (.cells #[.int .i64 p2, .int .i64 t2] 40)) w.heap.size p t from hN)
  have HR := Lib.hid (show Hn ((w.alloc (.cells #[.int .i64 p, .int .i64 t] 40)).alloc (.cells #[.int .i64 p2, .int .i64 t2] 40)) (w.heap.size + 1) p2 t2 from hR)
  have HD := Lib.hid (h.below B1)
  have HS := Lib.hid (hS.below B1)
  have HB := Lib.hid B1
  have HA := Lib.hid (And.intro hp (And.intro hh (And.intro hs hh2)))
  have HG := Lib.hid (hG.below B1)
  clear B1 hN hR h hp hh hs hS hh2 hG
  go_enter Tryd.func47, Tryd.ntmps47
  go_upto_region 1 with (fail)
  generalize (w.alloc (.cells #[.int .i64 p, .int .i64 t] 40)).alloc (.cells #[.int .i64 p2, .int .i64 t2] 40) = w1 at *
  have q0 := (blk_cell HN.out 0).trans (show _ = some (Value.int .i64 p) from rfl)
  have q1 := (blk_cell HN.out 1).trans (show _ = some (Value.int .i64 t) from rfl)
  go_upto_region 4 with (go_at_call 61; (with_reducible refine (find_yes d base pg M sb most n ps snaps cap D p t _ HD.out HA.out.1 HA.out.2.1 HA.out.2.2.1).mono ?_); rintro e w2 ⟨rfl, hb⟩; have HB2 := Lib.hid (below_step HB.out hb); have HS2 := Lib.hid (HS.out.below hb); have HR2 := Lib.hid (show Hn w2 (w.heap.size + 1) p2 t2 from blk_below HR.out hb); have HG2 := Lib.hid (HG.out.below hb); have HN2 := Lib.hid (show Hn w2 w.heap.size p t from blk_below HN.out hb); clear hb)
  clear q0 q1
  have s2 := (blk_cell HS2.out.hd 2).trans (show _ = some (Value.pointer (some ⟨s.sg, 0, none⟩)) from rfl)
  have k0 := (blk_cell HR2.out 0).trans (show _ = some (Value.int .i64 p2) from rfl)
  have k1 := (blk_cell HR2.out 1).trans (show _ = some (Value.int .i64 t2) from rfl)
  have HC : Hid (∀ W', Below w2.heap.size w2 W' → Calls Tryd.prog 22 #[.pointer (some ⟨s.sg, 0, none⟩), .agg #[.int .i64 p2, .int .i64 t2]] W' fun e w' => e = .returned (.bool false) ∧ Below W'.heap.size W' w') := fun W' hb' => by
    refine (has_calls s.sg base sm s.n s.ps p2 t2 W' (HS2.out.pl.below hb')).mono ?_
    rintro e w' ⟨rfl, hb2⟩
    exact ⟨by rw [HA.out.2.2.2], hb2⟩
  go_cut [20] (fun v20 wc => v20 = .bool true ∧ Hid (Below w2.heap.size w2 wc))
  case first =>
    have HK1 := Lib.hid (Below.refl w2.heap.size w2)
    go_region_held3 (fun w' => w'.cell? ⟨sb, 2, none⟩ = some (.pointer (some ⟨s.sg, 0, none⟩)) ∧ w'.cell? ⟨w.heap.size + 1, 0, none⟩ = some (.int .i64 p2) ∧ w'.cell? ⟨w.heap.size + 1, 1, none⟩ = some (.int .i64 t2)) (first | go_keep | exact ⟨s2, k0, k1⟩ | exact ⟨(HK1.out.cell (cell_lt s2)).trans s2, (HK1.out.cell (cell_lt k0)).trans k0, (HK1.out.cell (cell_lt k1)).trans k1⟩) (first | (go_at_call 22; (with_reducible refine (HC.out _ (by first | exact HK1.out | exact below_drew1 HK1.out)).mono ?_); rintro e wx ⟨rfl, hb⟩; first | (have HK1 := Lib.hid (below_step HK1.out hb)) | (have HK1 := Lib.hid (show Below w2.heap.size w2 wx from below_step (below_drew1 HK1.out) hb))))
    all_goals (
      go_wp2
      go_meet
      case rel => exact ⟨rfl, HK1⟩)
  case rest =>
    obtain ⟨rfl, HBc⟩ := hcut
    clear HC s2 k0 k1
    have HN3 := Lib.hid (show Hn _ w.heap.size p t from blk_below HN2.out HBc.out)
    have HB3 := Lib.hid (below_step HB2.out HBc.out)
    have HG3 := Lib.hid (HG2.out.below HBc.out)
    have k0 := (blk_cell HN3.out 0).trans (show _ = some (Value.int .i64 p) from rfl)
    have k1 := (blk_cell HN3.out 1).trans (show _ = some (Value.int .i64 t) from rfl)
    go_wp2_with (go_at_call 62; (with_reducible refine (wrongd_calls 3 p t _ HG3.out (i64_bd HA.out.1)).mono ?_); rintro e w3 ⟨k, rfl, hj, hb⟩; have HJ := Lib.hid hj; have HB4 := Lib.hid (below_step HB3.out hb); clear hj hb)
    go_ret2
    exact ⟨_, rfl, HJ.out, HB4.out⟩
end Go.Proofs.YtphaaagcdjpceaaDoor
