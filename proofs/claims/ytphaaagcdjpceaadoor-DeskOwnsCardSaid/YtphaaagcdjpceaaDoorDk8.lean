/- desk: Waits and Send of a handle that is not there; Find where both are there. -/
import Derived.Test.YtphaaagcdjpceaaDoorDk7
import Derived.Deep.QuietTactic
import Derived.BigQuiet
namespace Go.Proofs.YtphaaagcdjpceaaDoor
open Go.RowKit Go.Extern.Stop Go.Stop Go.Extern Go.Proofs.YtphaaagcdjpceaaDoorW.PrintWords Go.Proofs.YtphaaagcdjpceaaDoorW.PrintLast Go.Proofs.YtphaaagcdjpceaaDoorW.PrintMore
open Go.Maps (Keyed)
set_option linter.unusedVariables false
set_option maxHeartbeats 4000000 in
set_option maxRecDepth 100000 in
theorem waits_no (d base pg M : Nat) (most n : Int) (ps : List S108) (snaps : Int) (cap : Nat) (D : DataW Unit) (p t : Int) (w : World) (hG : Good w) (h : DK w base d pg M most n ps snaps cap D) (hp : -9223372036854775808 ≤ p ∧ p ≤ 9223372036854775807) (hh : hasB ps p t = false) :
    Calls Tryd.prog 45 #[.pointer (some ⟨d, 0, none⟩), .agg #[.int .i64 p, .int .i64 t]] w fun e w' => e = .returned (.tuple #[.slice none 0 0, .bool false]) ∧ Below w.heap.size w w' := by
  have B1 := below_alloc (Below.refl w.heap.size w) (.cells #[.int .i64 p, .int .i64 t] 40)
  have HN := Lib.hid (show Hn (w.alloc (.cells #[.int .i64 p, .int .i64 t] 40)) w.heap.size p t from heap_alloc_new w _)
  have HD := Lib.hid (h.below B1)
  have HG := Lib.hid (hG.below B1)
  have HB := Lib.hid B1
  have HA := Lib.hid (And.intro hp hh)
  clear B1 h hp hh hG
  go_enter Tryd.func45, Tryd.ntmps45
  go_upto_region 1 with (fail)
  generalize w.alloc (.cells #[.int .i64 p, .int .i64 t] 40) = w1 at *
  have q0 := (blk_cell HN.out 0).trans (show _ = some (Value.int .i64 p) from rfl)
  have q1 := (blk_cell HN.out 1).trans (show _ = some (Value.int .i64 t) from rfl)
  go_wp2_with (go_at_call 61; (with_reducible refine (find_no d base pg M most n ps snaps cap D p t _ HG.out HD.out HA.out.1 HA.out.2).mono ?_); rintro e w2 ⟨k, rfl, hj, hb⟩; have HB2 := Lib.hid (below_step HB.out hb); clear hb hj)
  go_ret2
  exact ⟨rfl, HB2.out⟩
set_option maxHeartbeats 4000000 in
set_option maxRecDepth 100000 in
theorem send_no (d base pg M : Nat) (most n : Int) (ps : List S108) (snaps : Int) (cap : Nat) (D : DataW Unit) (p t : Int) (w : World) (hG : Good w) (h : DK w base d pg M most n ps snaps cap D) (hp : -9223372036854775808 ≤ p ∧ p ≤ 9223372036854775807) (hh : hasB ps p t = false) (A : Option Addr) (m c : Nat) :
    Calls Tryd.prog 41 #[.pointer (some ⟨d, 0, none⟩), .agg #[.int .i64 p, .int .i64 t], .slice A m c] w fun e w' => ∃ k, e = .returned (.iface 179 (.pointer (some ⟨k, 0, none⟩))) ∧ Joined w' k 3 ∧ Below w.heap.size w w' := by
  have B1 := below_alloc (Below.refl w.heap.size w) (.cells #[.int .i64 p, .int .i64 t] 40)
  have HN := Lib.hid (show Hn (w.alloc (.cells #[.int .i64 p, .int .i64 t] 40)) w.heap.size p t from heap_alloc_new w _)
  have HD := Lib.hid (h.below B1)
  have HG := Lib.hid (hG.below B1)
  have HB := Lib.hid B1
  have HA := Lib.hid (And.intro hp hh)
  clear B1 h hp hh hG
  go_enter Tryd.func41, Tryd.ntmps41
  go_upto_region 1 with (fail)
  generalize w.alloc (.cells #[.int .i64 p, .int .i64 t] 40) = w1 at *
  have q0 := (blk_cell HN.out 0).trans (show _ = some (Value.int .i64 p) from rfl)
  have q1 := (blk_cell HN.out 1).trans (show _ = some (Value.int .i64 t) from rfl)
  go_wp2_with (go_at_call 61; (with_reducible refine (find_no d base pg M most n ps snaps cap D p t _ HG.out HD.out HA.out.1 HA.out.2).mono ?_); rintro e w2 ⟨k, rfl, hj, hb⟩; have HJ := Lib.hid hj; have HB2 := Lib.hid (below_step HB.out hb); clear hb hj)
  go_ret
  exact ⟨_, rfl, HJ.out, HB2.out⟩
theorem zero123 (w : World) : (zeroValue 3).run Tryd.prog w = .ok (.int .i64 0) w := zero3 w
set_option maxRecDepth 100000 in
theorem RM.look {W : World} {M n : Nat} {D : DataW Unit} (h : RM W M n D) (p : Int) (hp : (Lit.int .i64 p).wf = true) {r : Int} (hb : D.atKey (.int .i64 p) (.lit (.int .i64 0)) = .lit (.int .i64 r)) : ∀ m, (Instr.lookup 123 (.map (some M)) (.int .i64 p) false).run Tryd.prog (W.drewN m) = .ok (.int .i64 r) (W.drewN m) := by
  intro m
  have h' : RM (W.drewN m) M n D := h
  obtain ⟨v, ps, hr, hv⟩ := World.ownsMap.lookup h' key3 Tryd.underlying123 (zero3 _) (show plainElem (H := Unit) Tryd.prog 3 (.int .i64 0) = some (.lit (.int .i64 0), []) from plain_int (by decide)) (key := .int .i64 p) (kl := .int .i64 p) (Go.Maps.keyOf_int_mk Tryd.underlying3 hp)
  rw [hb] at hv
  rw [hr]
  have : v = .int .i64 r := by
    unfold plainElem at hv
    rw [Tryd.underlying3] at hv
    cases v <;> simp at hv
    obtain ⟨⟨rfl, _⟩, e, _⟩ := hv
    rw [e]
  rw [this]
set_option maxHeartbeats 8000000 in
set_option maxRecDepth 100000 in
theorem find_ok (d base pg M sb : Nat) (most n : Int) (ps : List S108) (snaps : Int) (cap : Nat) (D : DataW Unit) (p t : Int) (sm : Int) (s : Sn) (p2 t2 r : Int) (w : World) (h : DK w base d pg M most n ps snaps cap D) (hp : (Lit.int .i64 p).wf = true) (hh : hasB ps p t = true) (hs : D.atKey (.int .i64 p) .nil = .lit (.int .i64 (sb : Int)))
    (hS : SS w base sb sm s) (hp2 : (Lit.int .i64 p2).wf = true) (hh2 : hasB s.ps p2 t2 = true) (hr : s.D.atKey (.int .i64 p2) (.lit (.int .i64 0)) = .lit (.int .i64 r)) :
    Calls Tryd.prog 47 #[.pointer (some ⟨d, 0, none⟩), .agg #[.int .i64 p, .int .i64 t], .agg #[.int .i64 p2, .int .i64 t2]] w fun e w' => e = .returned (.tuple #[.int .i64 r, .nilIface]) ∧ Below w.heap.size w w' := by
  obtain ⟨B1, hN, hR⟩ := two40 w (.int .i64 p) (.int .i64 t) (.int .i64 p2) (.int .i64 t2)
  have HN := Lib.hid (show Hn ((w.alloc (.cells #[.int .i64 p, .int .i64 t] 40)).alloc (.cells #[.int .i64 p2, .int .i64 t2] 40)) w.heap.size p t from hN)
  have HR := Lib.hid (show Hn ((w.alloc (.cells #[.int .i64 p, .int .i64 t] 40)).alloc (.cells #[.int .i64 p2, .int .i64 t2] 40)) (w.heap.size + 1) p2 t2 from hR)
  have HD := Lib.hid (h.below B1)
  have HS := Lib.hid (hS.below B1)
  have HB := Lib.hid B1
  have HA := Lib.hid (And.intro hp (And.intro hh (And.intro hs (And.intro hp2 (And.intro hh2 hr)))))
  clear B1 hN hR h hp hh hs hS hp2 hh2 hr
  go_enter Tryd.func47, Tryd.ntmps47
  go_upto_region 1 with (fail)
  generalize (w.alloc (.cells #[.int .i64 p, .int .i64 t] 40)).alloc (.cells #[.int .i64 p2, .int .i64 t2] 40) = w1 at *
  have q0 := (blk_cell HN.out 0).trans (show _ = some (Value.int .i64 p) from rfl)
  have q1 := (blk_cell HN.out 1).trans (show _ = some (Value.int .i64 t) from rfl)
  go_upto_region 4 with (go_at_call 61; (with_reducible refine (find_yes d base pg M sb most n ps snaps cap D p t _ HD.out HA.out.1 HA.out.2.1 HA.out.2.2.1).mono ?_); rintro e w2 ⟨rfl, hb⟩; have HB2 := Lib.hid (below_step HB.out hb); have HS2 := Lib.hid (HS.out.below hb); have HR2 := Lib.hid (show Hn w2 (w.heap.size + 1) p2 t2 from blk_below HR.out hb); clear hb)
  clear q0 q1
  have s2 := (blk_cell HS2.out.hd 2).trans (show _ = some (Value.pointer (some ⟨s.sg, 0, none⟩)) from rfl)
  have k0 := (blk_cell HR2.out 0).trans (show _ = some (Value.int .i64 p2) from rfl)
  have k1 := (blk_cell HR2.out 1).trans (show _ = some (Value.int .i64 t2) from rfl)
  have HC : Hid (∀ W', Below w2.heap.size w2 W' → Calls Tryd.prog 22 #[.pointer (some ⟨s.sg, 0, none⟩), .agg #[.int .i64 p2, .int .i64 t2]] W' fun e w' => e = .returned (.bool true) ∧ Below W'.heap.size W' w') := fun W' hb' => by
    refine (has_calls s.sg base sm s.n s.ps p2 t2 W' (HS2.out.pl.below hb')).mono ?_
    rintro e w' ⟨rfl, hb2⟩
    exact ⟨by rw [HA.out.2.2.2.2.1], hb2⟩
  go_cut [20] (fun v20 wc => v20 = .bool false ∧ Hid (Below w2.heap.size w2 wc))
  case first =>
    have HK1 := Lib.hid (Below.refl w2.heap.size w2)
    go_region_held3 (fun w' => w'.cell? ⟨sb, 2, none⟩ = some (.pointer (some ⟨s.sg, 0, none⟩)) ∧ w'.cell? ⟨w.heap.size + 1, 0, none⟩ = some (.int .i64 p2) ∧ w'.cell? ⟨w.heap.size + 1, 1, none⟩ = some (.int .i64 t2)) (first | go_keep | exact ⟨s2, k0, k1⟩ | exact ⟨(HK1.out.cell (cell_lt s2)).trans s2, (HK1.out.cell (cell_lt k0)).trans k0, (HK1.out.cell (cell_lt k1)).trans k1⟩) (first | (go_at_call 22; (with_reducible refine (HC.out _ (by first | exact HK1.out | exact below_drew1 HK1.out)).mono ?_); rintro e wx ⟨rfl, hb⟩; first | (have HK1 := Lib.hid (below_step HK1.out hb)) | (have HK1 := Lib.hid (show Below w2.heap.size w2 wx from below_step (below_drew1 HK1.out) hb))))
    all_goals (
      go_wp2
      go_meet
      case rel => exact ⟨rfl, HK1⟩)
  case rest =>
    obtain ⟨rfl, HBc⟩ := hcut
    clear HC s2 k0 k1
    have HS3 := Lib.hid (HS2.out.below HBc.out)
    have HR3 := Lib.hid (show Hn _ (w.heap.size + 1) p2 t2 from blk_below HR2.out HBc.out)
    have HB3 := Lib.hid (below_step HB2.out HBc.out)
    have s3 := (blk_cell HS3.out.hd 3).trans (show _ = some (Value.map (some s.mb)) from rfl)
    have k0 := (blk_cell HR3.out 0).trans (show _ = some (Value.int .i64 p2) from rfl)
    have hlk := RM.look (show RM wc s.mb s.cap s.D from HS3.out.mp) p2 HA.out.2.2.2.1 HA.out.2.2.2.2.2
    go_wp2_with (fail)
    go_quiet (fail)
    have D4 := Lib.hid (pw_below_drewN HB3.out nq)
    go_wp2
    go_ret2
    exact ⟨rfl, D4.out⟩
end Go.Proofs.YtphaaagcdjpceaaDoor
