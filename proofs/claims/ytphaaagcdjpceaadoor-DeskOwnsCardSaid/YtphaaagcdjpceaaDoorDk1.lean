/- desk: what a desk is in memory; find. -/
import Derived.Test.YtphaaagcdjpceaaDoorDk0
import Derived.Maps.Own
import Derived.Maps.OwnSet
import Derived.Deep.RegionHeld3
namespace Go.Proofs.YtphaaagcdjpceaaDoor
open Go.RowKit Go.Extern.Stop Go.Stop Go.Extern Go.Proofs.YtphaaagcdjpceaaDoorW.PrintWords Go.Proofs.YtphaaagcdjpceaaDoorW.PrintLast Go.Proofs.YtphaaagcdjpceaaDoorW.PrintMore
open Go.Maps (Keyed)
set_option linter.unusedVariables false
/-- How a pointer in a map reads: its block's number. -/
def ptrEl (v : Value) : Option (DataW Unit × List MemPlace) := match v with
  | .pointer (some ⟨b, 0, none⟩) => some (.lit (.int .i64 b), [])
  | .pointer none => some (.nil, [])
  | _ => none
theorem ptrEl_inv {v : Value} {b : Nat} {ps : List MemPlace} (h : ptrEl v = some (.lit (.int .i64 (b : Int)), ps)) : v = .pointer (some ⟨b, 0, none⟩) := by
  unfold ptrEl at h
  split at h
  · simp at h
    rename_i b'
    obtain ⟨h, _⟩ := h
    have : b' = b := by omega
    rw [this]
  · simp at h
  · cases h
theorem key3 : Keyed Tryd.prog 3 := Go.Maps.int_keyed Tryd.underlying3
theorem zero134 (w : World) : (zeroValue 134).run Tryd.prog w = .ok (.pointer none) w := by kernel_rfl
theorem zero3 (w : World) : (zeroValue 3).run Tryd.prog w = .ok (.int .i64 0) w := by kernel_rfl
/-- A desk's sessions by their places. -/
abbrev MP (W : World) (M n : Nat) (D : DataW Unit) : Prop := W.ownsMap Tryd.prog 3 ptrEl M n D
theorem MP.look {W : World} {M n : Nat} {D : DataW Unit} (h : MP W M n D) (p : Int) (hp : (Lit.int .i64 p).wf = true) {b : Nat} (hb : D.atKey (.int .i64 p) .nil = .lit (.int .i64 (b : Int))) : ∀ m, (Instr.lookup 131 (.map (some M)) (.int .i64 p) false).run Tryd.prog (W.drewN m) = .ok (.pointer (some ⟨b, 0, none⟩)) (W.drewN m) := by
  intro m
  have h' : MP (W.drewN m) M n D := h
  obtain ⟨v, ps, hr, hv⟩ := World.ownsMap.lookup h' key3 Tryd.underlying131 (zero134 _) (show ptrEl (.pointer none) = some (.nil, []) from rfl) (key := .int .i64 p) (kl := .int .i64 p) (Go.Maps.keyOf_int_mk Tryd.underlying3 hp)
  rw [hb] at hv
  rw [hr, ptrEl_inv hv]
/-- A desk at block d: its pool at pg, its sessions at the map M. -/
structure DK (W : World) (base d pg M : Nat) (most n : Int) (ps : List S108) (snaps : Int) (cap : Nat) (D : DataW Unit) : Prop where
  hd : W.heap[d]? = some (.cells #[.pointer (some ⟨pg, 0, none⟩), .int .i64 snaps, .map (some M)] 133 (0, 0))
  pl : PL W base pg most ps n
  mp : MP W M cap D
theorem DK.below {W W1 : World} {base d pg M : Nat} {most n : Int} {ps : List S108} {snaps : Int} {cap : Nat} {D : DataW Unit} (h : DK W base d pg M most n ps snaps cap D) (hb : Below W.heap.size W W1) : DK W1 base d pg M most n ps snaps cap D := by
  obtain ⟨h1, h2, h3⟩ := h
  refine ⟨blk_below h1 hb, h2.below hb, ?_⟩
  obtain ⟨es, clock, hm, r⟩ := h3
  exact ⟨es, clock, (hb.block M (blk_lt hm)).trans hm, r⟩
set_option maxHeartbeats 4000000 in
set_option maxRecDepth 100000 in
theorem find_no (d base pg M : Nat) (most n : Int) (ps : List S108) (snaps : Int) (cap : Nat) (D : DataW Unit) (p t : Int) (w : World) (hG : Good w) (h : DK w base d pg M most n ps snaps cap D) (hp : -9223372036854775808 ≤ p ∧ p ≤ 9223372036854775807) (hh : hasB ps p t = false) : Calls Tryd.prog 61 #[.pointer (some ⟨d, 0, none⟩), .agg #[.int .i64 p, .int .i64 t]] w fun e w' => ∃ k, e = .returned (.tuple #[.pointer none, .iface 179 (.pointer (some ⟨k, 0, none⟩))]) ∧ Joined w' k 3 ∧ Below w.heap.size w w' := by
  have B1 := below_alloc (Below.refl w.heap.size w) (.cells #[.int .i64 p, .int .i64 t] 40)
  have HN := Lib.hid (show Hn (w.alloc (.cells #[.int .i64 p, .int .i64 t] 40)) w.heap.size p t from heap_alloc_new w _)
  have HD := Lib.hid (h.below B1)
  have HG := Lib.hid (hG.below B1)
  have HB := Lib.hid B1
  have HH := Lib.hid hh
  have HI := Lib.hid hp
  clear B1 h hG hh hp
  go_enter Tryd.func61, Tryd.ntmps61
  go_upto_region 1 with (fail)
  generalize w.alloc (.cells #[.int .i64 p, .int .i64 t] 40) = w1 at *
  have q0 := (blk_cell HD.out.hd 0).trans (show _ = some (Value.pointer (some ⟨pg, 0, none⟩)) from rfl)
  have k0 := (blk_cell HN.out 0).trans (show _ = some (Value.int .i64 p) from rfl)
  have k1 := (blk_cell HN.out 1).trans (show _ = some (Value.int .i64 t) from rfl)
  have HK1 := Lib.hid (Below.refl w1.heap.size w1)
  have HC : Hid (∀ W', Below w1.heap.size w1 W' → Calls Tryd.prog 22 #[.pointer (some ⟨pg, 0, none⟩), .agg #[.int .i64 p, .int .i64 t]] W' fun e w' => e = .returned (.bool false) ∧ Below W'.heap.size W' w') := fun W' hb' => by
    refine (has_calls pg base most n ps p t W' (HD.out.pl.below hb')).mono ?_
    rintro e w' ⟨rfl, hb2⟩
    exact ⟨by rw [HH.out], hb2⟩
  go_cut [12] (fun v12 wc => v12 = .bool true ∧ Hid (Below w1.heap.size w1 wc))
  case first =>
    go_region_held3 (fun w' => w'.cell? ⟨d, 0, none⟩ = some (.pointer (some ⟨pg, 0, none⟩)) ∧ w'.cell? ⟨w.heap.size, 0, none⟩ = some (.int .i64 p) ∧ w'.cell? ⟨w.heap.size, 1, none⟩ = some (.int .i64 t)) (first | go_keep | exact ⟨q0, k0, k1⟩ | exact ⟨(HK1.out.cell (cell_lt q0)).trans q0, (HK1.out.cell (cell_lt k0)).trans k0, (HK1.out.cell (cell_lt k1)).trans k1⟩) (first | (go_at_call 22; (with_reducible refine (HC.out _ (by first | exact HK1.out | exact below_drew1 HK1.out)).mono ?_); rintro e wx ⟨rfl, hb⟩; first | (have HK1 := Lib.hid (below_step HK1.out hb)) | (have HK1 := Lib.hid (show Below w1.heap.size w1 wx from below_step (below_drew1 HK1.out) hb))))
    all_goals (
      go_wp2
      go_meet
      case rel => exact ⟨rfl, HK1.out⟩)
  case rest =>
    obtain ⟨rfl, HBc⟩ := hcut
    clear HK1 HC q0 k0 k1
    have HN2 := Lib.hid (show Hn _ _ _ _ from blk_below HN.out HBc.out)
    have k0 := (blk_cell HN2.out 0).trans (show _ = some (Value.int .i64 p) from rfl)
    have k1 := (blk_cell HN2.out 1).trans (show _ = some (Value.int .i64 t) from rfl)
    go_wp2_with (fail)
    go_at_call 62
    (with_reducible refine (wrongd_calls 3 p t _ (HG.out.below HBc.out) HI.out).mono ?_)
    rintro e w4 ⟨k, rfl, hj, hb⟩
    have HJ := Lib.hid hj
    have HB4 := Lib.hid (below_step (below_step HB.out HBc.out) hb)
    clear hb hj
    go_wp2
    go_ret2
    exact ⟨k, rfl, HJ.out, HB4.out⟩
set_option maxHeartbeats 4000000 in
set_option maxRecDepth 100000 in
theorem find_yes (d base pg M sb : Nat) (most n : Int) (ps : List S108) (snaps : Int) (cap : Nat) (D : DataW Unit) (p t : Int) (w : World) (h : DK w base d pg M most n ps snaps cap D) (hp : (Lit.int .i64 p).wf = true) (hh : hasB ps p t = true) (hs : D.atKey (.int .i64 p) .nil = .lit (.int .i64 (sb : Int))) : Calls Tryd.prog 61 #[.pointer (some ⟨d, 0, none⟩), .agg #[.int .i64 p, .int .i64 t]] w fun e w' => e = .returned (.tuple #[.pointer (some ⟨sb, 0, none⟩), .nilIface]) ∧ Below w.heap.size w w' := by
  have B1 := below_alloc (Below.refl w.heap.size w) (.cells #[.int .i64 p, .int .i64 t] 40)
  have HN := Lib.hid (show Hn (w.alloc (.cells #[.int .i64 p, .int .i64 t] 40)) w.heap.size p t from heap_alloc_new w _)
  have HD := Lib.hid (h.below B1)
  have HB := Lib.hid B1
  have HH := Lib.hid hh
  have HI := Lib.hid hp
  have HS := Lib.hid hs
  clear B1 h hh hp hs
  go_enter Tryd.func61, Tryd.ntmps61
  go_upto_region 1 with (fail)
  generalize w.alloc (.cells #[.int .i64 p, .int .i64 t] 40) = w1 at *
  have q0 := (blk_cell HD.out.hd 0).trans (show _ = some (Value.pointer (some ⟨pg, 0, none⟩)) from rfl)
  have k0 := (blk_cell HN.out 0).trans (show _ = some (Value.int .i64 p) from rfl)
  have k1 := (blk_cell HN.out 1).trans (show _ = some (Value.int .i64 t) from rfl)
  have HK1 := Lib.hid (Below.refl w1.heap.size w1)
  have HC : Hid (∀ W', Below w1.heap.size w1 W' → Calls Tryd.prog 22 #[.pointer (some ⟨pg, 0, none⟩), .agg #[.int .i64 p, .int .i64 t]] W' fun e w' => e = .returned (.bool true) ∧ Below W'.heap.size W' w') := fun W' hb' => by
    refine (has_calls pg base most n ps p t W' (HD.out.pl.below hb')).mono ?_
    rintro e w' ⟨rfl, hb2⟩
    exact ⟨by rw [HH.out], hb2⟩
  go_cut [12] (fun v12 wc => v12 = .bool false ∧ Hid (Below w1.heap.size w1 wc))
  case first =>
    go_region_held3 (fun w' => w'.cell? ⟨d, 0, none⟩ = some (.pointer (some ⟨pg, 0, none⟩)) ∧ w'.cell? ⟨w.heap.size, 0, none⟩ = some (.int .i64 p) ∧ w'.cell? ⟨w.heap.size, 1, none⟩ = some (.int .i64 t)) (first | go_keep | exact ⟨q0, k0, k1⟩ | exact ⟨(HK1.out.cell (cell_lt q0)).trans q0, (HK1.out.cell (cell_lt k0)).trans k0, (HK1.out.cell (cell_lt k1)).trans k1⟩) (first | (go_at_call 22; (with_reducible refine (HC.out _ (by first | exact HK1.out | exact below_drew1 HK1.out)).mono ?_); rintro e wx ⟨rfl, hb⟩; first | (have HK1 := Lib.hid (below_step HK1.out hb)) | (have HK1 := Lib.hid (show Below w1.heap.size w1 wx from below_step (below_drew1 HK1.out) hb))))
    all_goals (
      go_wp2
      go_meet
      case rel => exact ⟨rfl, HK1.out⟩)
  case rest =>
    obtain ⟨rfl, HBc⟩ := hcut
    clear HK1 HC q0 k0 k1
    have HN2 := Lib.hid (show Hn _ _ _ _ from blk_below HN.out HBc.out)
    have HD2 := Lib.hid (HD.out.below HBc.out)
    have k0 := (blk_cell HN2.out 0).trans (show _ = some (Value.int .i64 p) from rfl)
    have q2 := (blk_cell HD2.out.hd 2).trans (show _ = some (Value.map (some M)) from rfl)
    have hlk := HD2.out.mp.look p HI.out HS.out
    have HB2 := Lib.hid (below_step HB.out HBc.out)
    go_wp2_with (fail)
    go_quiet (fail)
    have D4 := Lib.hid (pw_below_drewN HB2.out nq)
    go_wp2
    go_ret2
    exact ⟨rfl, D4.out⟩
end Go.Proofs.YtphaaagcdjpceaaDoor
