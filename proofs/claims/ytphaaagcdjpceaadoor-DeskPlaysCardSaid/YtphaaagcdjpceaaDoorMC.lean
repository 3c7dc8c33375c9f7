import Derived.Test.YtphaaagcdjpceaaDoorProg
import Derived.Test.YtphaaagcdjpceaaDoorMB
import Derived.Shelf.SlIterI.Nil
import Derived.Shelf.SortM.Plain
import Derived.Shelf.SortM.SortNone
import Derived.Ground.GgzProg
import Derived.Ground.SlgmProg
import Derived.Maps.Own
import Derived.Maps.OwnSet
import Derived.Deep.RegionHeld3
import Derived.Deep.RegionWith
import Derived.Deep.QuietTactic
import Derived.BigQuiet
namespace Go.Proofs
open Go.Shelf
def Tryd.keysA_ren : Go.Shelf.Ren := ⟨fun | 7 => 65 | 10 => 76 | n => n, fun | 23 => 123 | 26 => 3 | 3 => 3 | 28 => 143 | 0 => 0 | 27 => 142 | 33 => 161 | 4 => 4 | n => n, fun | n => n⟩
theorem Tryd.keysA : Go.Proofs.SlLaysZI.n7 Tryd.prog Tryd.keysA_ren := {
  mixed := by kernel_rfl
  f7 := ⟨Tryd.f65.name, by decide, Tryd.func65.trans (congrArg some (by kernel_rfl))⟩
  f10 := ⟨Tryd.f76.name, by decide, Tryd.func76.trans (congrArg some (by kernel_rfl))⟩
  t0 := Tryd.underlying0
  a0 := Tryd.isAgg0
  z0 := Tryd.sizeOf0
  v0 := Tryd.zeroValue0
  t4 := Tryd.underlying4
  a4 := Tryd.isAgg4
  z4 := Tryd.sizeOf4
  v4 := Tryd.zeroValue4
  t23 := Tryd.underlying123
  a23 := Tryd.isAgg123
  z23 := Tryd.sizeOf123
  v23 := Tryd.zeroValue123
  t26 := Tryd.underlying3
  a26 := Tryd.isAgg3
  z26 := Tryd.sizeOf3
  v26 := Tryd.zeroValue3
  t27 := Tryd.underlying142
  a27 := Tryd.isAgg142
  z27 := Tryd.sizeOf142
  v27 := Tryd.zeroValue142
  t28 := Tryd.underlying143
  a28 := Tryd.isAgg143
  z28 := Tryd.sizeOf143
  v28 := Tryd.zeroValue143
  t33 := Tryd.underlying161
  a33 := Tryd.isAgg161
  z33 := Tryd.sizeOf161
  v33 := Tryd.zeroValue161 }
def Tryd.sortedA_ren : Go.Shelf.Ren := ⟨fun | 6 => 64 | 8 => 75 | 9 => 66 | 11 => 84 | 13 => 78 | 12 => 77 | 23 => 94 | 24 => 95 | 14 => 85 | 15 => 86 | 16 => 87 | 17 => 88 | 18 => 89 | 19 => 90 | 20 => 91 | 21 => 92 | 22 => 93 | 25 => 103 | 26 => 104 | 27 => 105 | 28 => 106 | 29 => 107 | 30 => 108 | 31 => 114 | n => n, fun | 26 => 3 | 28 => 143 | 24 => 35 | 0 => 0 | 3 => 3 | 37 => 43 | 48 => 197 | 50 => 199 | 4 => 4 | 40 => 189 | 39 => 188 | 45 => 194 | 5 => 5 | 9 => 9 | 51 => 208 | 55 => 212 | 57 => 219 | 58 => 220 | 33 => 161 | n => n, fun | n => n⟩
theorem Tryd.sortedA : Go.Proofs.SlLaysZI.n6 Tryd.prog Tryd.sortedA_ren := {
  mixed := by kernel_rfl
  f6 := ⟨Tryd.f64.name, by decide, Tryd.func64.trans (congrArg some (by kernel_rfl))⟩
  f8 := ⟨Tryd.f75.name, by decide, Tryd.func75.trans (congrArg some (by kernel_rfl))⟩
  f11 := ⟨Tryd.f84.name, by decide, Tryd.func84.trans (congrArg some (by kernel_rfl))⟩
  t0 := Tryd.underlying0
  a0 := Tryd.isAgg0
  z0 := Tryd.sizeOf0
  v0 := Tryd.zeroValue0
  t24 := Tryd.underlying35
  a24 := Tryd.isAgg35
  z24 := Tryd.sizeOf35
  v24 := Tryd.zeroValue35
  t26 := Tryd.underlying3
  a26 := Tryd.isAgg3
  z26 := Tryd.sizeOf3
  v26 := Tryd.zeroValue3
  t28 := Tryd.underlying143
  a28 := Tryd.isAgg143
  z28 := Tryd.sizeOf143
  v28 := Tryd.zeroValue143
  i26 := by kernel_rfl }
def Tryd.sortA_ren : Go.Shelf.Ren := ⟨fun | 5 => 66 | 8 => 78 | 7 => 77 | 19 => 94 | 20 => 95 | 10 => 85 | 11 => 86 | 12 => 87 | 13 => 88 | 14 => 89 | 15 => 90 | 16 => 91 | 17 => 92 | 18 => 93 | 30 => 103 | 31 => 104 | 32 => 105 | 33 => 106 | 34 => 107 | 35 => 108 | 40 => 114 | n => n, fun | 23 => 35 | 25 => 3 | 3 => 3 | 32 => 43 | 22 => 35 | 0 => 0 | 44 => 197 | 46 => 199 | 4 => 4 | 36 => 189 | 35 => 188 | 41 => 194 | 5 => 5 | 9 => 9 | 53 => 208 | 57 => 212 | 63 => 219 | 64 => 220 | n => n, fun | n => n⟩
theorem Tryd.sortA : Go.Proofs.SlLaysM.n5 Tryd.prog Tryd.sortA_ren := {
  mixed := by kernel_rfl
  f5 := ⟨Tryd.f66.name, by decide, Tryd.func66.trans (congrArg some (by kernel_rfl))⟩
  f7 := ⟨Tryd.f77.name, by decide, Tryd.func77.trans (congrArg some (by kernel_rfl))⟩
  f8 := Tryd.func78.trans (congrArg some (by kernel_rfl))
  f10 := ⟨Tryd.f85.name, by decide, Tryd.func85.trans (congrArg some (by kernel_rfl))⟩
  f11 := ⟨Tryd.f86.name, by decide, Tryd.func86.trans (congrArg some (by kernel_rfl))⟩
  f12 := ⟨Tryd.f87.name, by decide, Tryd.func87.trans (congrArg some (by kernel_rfl))⟩
  f13 := ⟨Tryd.f88.name, by decide, Tryd.func88.trans (congrArg some (by kernel_rfl))⟩
  f14 := ⟨Tryd.f89.name, by decide, Tryd.func89.trans (congrArg some (by kernel_rfl))⟩
  f15 := ⟨Tryd.f90.name, by decide, Tryd.func90.trans (congrArg some (by kernel_rfl))⟩
  f16 := ⟨Tryd.f91.name, by decide, Tryd.func91.trans (congrArg some (by kernel_rfl))⟩
  f17 := ⟨Tryd.f92.name, by decide, Tryd.func92.trans (congrArg some (by kernel_rfl))⟩
  f18 := ⟨Tryd.f93.name, by decide, Tryd.func93.trans (congrArg some (by kernel_rfl))⟩
  f19 := Tryd.func94.trans (congrArg some (by kernel_rfl))
  f20 := Tryd.func95.trans (congrArg some (by kernel_rfl))
  f30 := ⟨Tryd.f103.name, by decide, Tryd.func103.trans (congrArg some (by kernel_rfl))⟩
  f31 := Tryd.func104.trans (congrArg some (by kernel_rfl))
  f32 := Tryd.func105.trans (congrArg some (by kernel_rfl))
  f33 := ⟨Tryd.f106.name, by decide, Tryd.func106.trans (congrArg some (by kernel_rfl))⟩
  f34 := ⟨Tryd.f107.name, by decide, Tryd.func107.trans (congrArg some (by kernel_rfl))⟩
  f35 := ⟨Tryd.f108.name, by decide, Tryd.func108.trans (congrArg some (by kernel_rfl))⟩
  f40 := ⟨Tryd.f114.name, by decide, Tryd.func114.trans (congrArg some (by kernel_rfl))⟩
  t0 := Tryd.underlying0
  a0 := Tryd.isAgg0
  z0 := Tryd.sizeOf0
  v0 := Tryd.zeroValue0
  t3 := Tryd.underlying3
  a3 := Tryd.isAgg3
  z3 := Tryd.sizeOf3
  v3 := Tryd.zeroValue3
  t4 := Tryd.underlying4
  a4 := Tryd.isAgg4
  z4 := Tryd.sizeOf4
  v4 := Tryd.zeroValue4
  t5 := Tryd.underlying5
  a5 := Tryd.isAgg5
  z5 := Tryd.sizeOf5
  v5 := Tryd.zeroValue5
  t9 := Tryd.underlying9
  a9 := Tryd.isAgg9
  z9 := Tryd.sizeOf9
  v9 := Tryd.zeroValue9
  t22 := Tryd.underlying35
  a22 := Tryd.isAgg35
  z22 := Tryd.sizeOf35
  v22 := Tryd.zeroValue35
  t23 := Tryd.underlying35
  a23 := Tryd.isAgg35
  z23 := Tryd.sizeOf35
  v23 := Tryd.zeroValue35
  t25 := Tryd.underlying3
  a25 := Tryd.isAgg3
  z25 := Tryd.sizeOf3
  v25 := Tryd.zeroValue3
  t32 := Tryd.underlying43
  a32 := Tryd.isAgg43
  z32 := Tryd.sizeOf43
  v32 := Tryd.zeroValue43
  t35 := Tryd.underlying188
  a35 := Tryd.isAgg188
  z35 := Tryd.sizeOf188
  v35 := Tryd.zeroValue188
  t36 := Tryd.underlying189
  a36 := Tryd.isAgg189
  z36 := Tryd.sizeOf189
  v36 := Tryd.zeroValue189
  t41 := Tryd.underlying194
  a41 := Tryd.isAgg194
  z41 := Tryd.sizeOf194
  v41 := Tryd.zeroValue194
  t44 := Tryd.underlying197
  a44 := Tryd.isAgg197
  z44 := Tryd.sizeOf197
  v44 := Tryd.zeroValue197
  t46 := Tryd.underlying199
  a46 := Tryd.isAgg199
  z46 := Tryd.sizeOf199
  v46 := Tryd.zeroValue199
  t53 := Tryd.underlying208
  a53 := Tryd.isAgg208
  z53 := Tryd.sizeOf208
  v53 := Tryd.zeroValue208
  t57 := Tryd.underlying212
  a57 := Tryd.isAgg212
  z57 := Tryd.sizeOf212
  v57 := Tryd.zeroValue212
  t63 := Tryd.underlying219
  a63 := Tryd.isAgg219
  z63 := Tryd.sizeOf219
  v63 := Tryd.zeroValue219
  t64 := Tryd.underlying220
  a64 := Tryd.isAgg220
  z64 := Tryd.sizeOf220
  v64 := Tryd.zeroValue220 }
end Go.Proofs
namespace Go.Proofs.YtphaaagcdjpceaaDoor
open Go.RowKit Go.Extern.Stop Go.Stop Go.Extern Go.Proofs.YtphaaagcdjpceaaDoorW.PrintWords Go.Proofs.YtphaaagcdjpceaaDoorW.PrintLast Go.Proofs.YtphaaagcdjpceaaDoorW.PrintMore
set_option linter.unusedVariables false
set_option maxHeartbeats 4000000 in
set_option maxRecDepth 100000 in
theorem wrongd_calls (n p t : Int) (w : World) (hG : Good w) (hp : -9223372036854775808 ≤ p ∧ p ≤ 9223372036854775807) : Calls Tryd.prog 62 #[.int .i64 n, .agg #[.int .i64 p, .int .i64 t]] w fun e w' => ∃ k, e = .returned (.iface 179 (.pointer (some ⟨k, 0, none⟩))) ∧ Joined w' k n ∧ Below w.heap.size w w' := by
  have B1 := below_alloc (Below.refl w.heap.size w) (.cells #[.int .i64 p, .int .i64 t] 40)
  have hn := heap_alloc_new w (.cells #[.int .i64 p, .int .i64 t] 40)
  have k0 := (blk_cell hn 0).trans (show _ = some (Value.int .i64 p) from rfl)
  have HG := Lib.hid (hG.below B1)
  have HB1 := Lib.hid B1
  have HI := Lib.hid hp
  clear B1 hG hp hn
  go_enter Tryd.func62, Tryd.ntmps62
  go_wp2_with (fail)
  generalize w.alloc (.cells #[.int .i64 p, .int .i64 t] 40) = w1 at *
  go_at_call 52
  (with_reducible refine (itoa2 p HI.out _ HG.out).mono ?_)
  rintro e w2 ⟨s, rfl, hs, hb⟩
  have hadd : ∀ w, (Op.stringOp .add { data := #[115, 101, 115, 115, 105, 111, 110, 32] } (s : ByteArray)).run Tryd.prog w = .ok (.string ({ data := #[115, 101, 115, 115, 105, 111, 110, 32] } ++ s)) w := fun w => run_string_add_sum w _ _ (by have : (({ data := #[115, 101, 115, 115, 105, 111, 110, 32] } : ByteArray)).size = 8 := rfl; omega)
  have HB2 := Lib.hid (below_step HB1.out hb)
  clear hb
  go_wp2_with (fail)
  generalize ({ data := #[115, 101, 115, 115, 105, 111, 110, 32] } : ByteArray) ++ s = tx at *
  obtain ⟨tx⟩ := tx
  have B3 := below_alloc (Below.refl w2.heap.size w2) (.cells #[.string ⟨tx⟩] 184)
  have B4 := below_alloc B3 (.cells #[.iface 182 (.pointer (some ⟨w2.heap.size, 0, none⟩)), .iface 26 (.int .i64 n)] 31)
  have hn := heap_alloc_new (w2.alloc (.cells #[.string ⟨tx⟩] 184)) (.cells #[.iface 182 (.pointer (some ⟨w2.heap.size, 0, none⟩)), .iface 26 (.int .i64 n)] 31)
  rw [World.size_alloc] at hn
  have HN := Lib.hid hn; have HB4 := Lib.hid (below_step HB2.out B4)
  clear B3 B4 hn
  go_at_call 73
  (with_reducible refine (new_calls tx _).mono ?_)
  rintro e w3 ⟨rfl, rfl⟩
  go_wp2_with (fail)
  go_at_call 72
  (with_reducible refine (join_calls 182 26 (.pointer (some ⟨w2.heap.size, 0, none⟩)) (.int .i64 n) (w2.heap.size + 1) _ ((blk_cell HN.out 0).trans rfl) ((blk_cell HN.out 1).trans rfl) (blk_lt HN.out)).mono ?_)
  rintro e w5 ⟨k, m, rfl, hk, hm, hb⟩
  have HJ : Hid (Joined w5 k n) := ⟨m, _, hk, hm⟩
  have HB5 := Lib.hid (below_step HB4.out hb)
  clear hk hm hb
  go_wp2
  go_ret
  exact ⟨k, rfl, HJ.out, HB5.out⟩
end Go.Proofs.YtphaaagcdjpceaaDoor
namespace Go.Proofs.YtphaaagcdjpceaaDoor
open Go.RowKit Go.Extern.Stop Go.Stop Go.Extern Go.Proofs.YtphaaagcdjpceaaDoorW.PrintWords Go.Proofs.YtphaaagcdjpceaaDoorW.PrintLast Go.Proofs.YtphaaagcdjpceaaDoorW.PrintMore
open Go.Maps (Keyed)
set_option linter.unusedVariables false
def ptrEl (v : Value) : Option (DataW Unit × List MemPlace) := match v with
  | .pointer (some ⟨b, 0, none⟩) => some (.lit (.int .i64 b), [])
  | .pointer none => some (.nil, [])
  | _ => none
theorem ptrEl_inv {v : Value} {b : Nat} {ps : List MemPlace} (h : ptrEl v = some (.lit (.int .i64 (b : Int)), ps)) : v = .pointer (some ⟨b, 0, none⟩) := by
  unfold ptrEl at h
  split at h
  · simp at h
    rename_i b'
    obtain ⟨h, _⟩ := h
    have : b' = b := by omega
    rw [this]
  · simp at h
  · cases h
theorem key3 : Keyed Tryd.prog 3 := Go.Maps.int_keyed Tryd.underlying3
theorem zero134 (w : World) : (zeroValue 134).run Tryd.prog w = .ok (.pointer none) w := by kernel_rfl
theorem zero3 (w : World) : (zeroValue 3).run Tryd.prog w = .ok (.int .i64 0) w := by kernel_rfl
abbrev MP (W : World) (M n : Nat) (D : DataW Unit) : Prop := W.ownsMap Tryd.prog 3 ptrEl M n D
theorem MP.look {W : World} {M n : Nat} {D : DataW Unit} (h : MP W M n D) (p : Int) (hp : (Lit.int .i64 p).wf = true) {b : Nat} (hb : D.atKey (.int .i64 p) .nil = .lit (.int .i64 (b : Int))) : ∀ m, (Instr.lookup 131 (.map (some M)) (.int .i64 p) false).run Tryd.prog (W.drewN m) = .ok (.pointer (some ⟨b, 0, none⟩)) (W.drewN m) := by
  intro m
  have h' : MP (W.drewN m) M n D := h
  obtain ⟨v, ps, hr, hv⟩ := World.ownsMap.lookup h' key3 Tryd.underlying131 (zero134 _) (show ptrEl (.pointer none) = some (.nil, []) from rfl) (key := .int .i64 p) (kl := .int .i64 p) (Go.Maps.keyOf_int_mk Tryd.underlying3 hp)
  rw [hb] at hv
  rw [hr, ptrEl_inv hv]
structure DK (W : World) (base d pg M : Nat) (most n : Int) (ps : List S108) (snaps : Int) (cap : Nat) (D : DataW Unit) : Prop where
  hd : W.heap[d]? = some (.cells #[.pointer (some ⟨pg, 0, none⟩), .int .i64 snaps, .map (some M)] 133 (0, 0))
  pl : PL W base pg most ps n
  mp : MP W M cap D
theorem DK.below {W W1 : World} {base d pg M : Nat} {most n : Int} {ps : List S108} {snaps : Int} {cap : Nat} {D : DataW Unit} (h : DK W base d pg M most n ps snaps cap D) (hb : Below W.heap.size W W1) : DK W1 base d pg M most n ps snaps cap D := by
  obtain ⟨h1, h2, h3⟩ := h
  refine ⟨blk_below h1 hb, h2.below hb, ?_⟩
  obtain ⟨es, clock, hm, r⟩ := h3
  exact ⟨es, clock, (hb.block M (blk_lt hm)).trans hm, r⟩
set_option maxHeartbeats 4000000 in
set_option maxRecDepth 100000 in
theorem find_no (d base pg M : Nat) (most n : Int) (ps : List S108) (snaps : Int) (cap : Nat) (D : DataW Unit) (p t : Int) (w : World) (hG : Good w) (h : DK w base d pg M most n ps snaps cap D) (hp : -9223372036854775808 ≤ p ∧ p ≤ 9223372036854775807) (hh : hasB ps p t = false) : Calls Tryd.prog 61 #[.pointer (some ⟨d, 0, none⟩), .agg #[.int .i64 p, .int .i64 t]] w fun e w' => ∃ k, e = .returned (.tuple #[.pointer none, .iface 179 (.pointer (some ⟨k, 0, none⟩))]) ∧ Joined w' k 3 ∧ Below w.heap.size w w' := by
  have B1 := below_alloc (Below.refl w.heap.size w) (.cells #[.int .i64 p, .int .i64 t] 40)
  have HN := Lib.hid (show Hn (w.alloc (.cells #[.int .i64 p, .int .i64 t] 40)) w.heap.size p t from heap_alloc_new w _)
  have HD := Lib.hid (h.below B1)
  have HG := Lib.hid (hG.below B1)
  have HB := Lib.hid B1
  have HH := Lib.hid hh
  have HI := Lib.hid hp
  clear B1 h hG hh hp
  go_enter Tryd.func61, Tryd.ntmps61
  go_upto_region 1 with (fail)
  generalize w.alloc (.cells #[.int .i64 p, .int .i64 t] 40) = w1 at *
  have q0 := (blk_cell HD.out.hd 0).trans (show _ = some (Value.pointer (some ⟨pg, 0, none⟩)) from rfl)
  have k0 := (blk_cell HN.out 0).trans (show _ = some (Value.int .i64 p) from rfl)
  have k1 := (blk_cell HN.out 1).trans (show _ = some (Value.int .i64 t) from rfl)
  have HK1 := Lib.hid (Below.refl w1.heap.size w1)
  have HC : Hid (∀ W', Below w1.heap.size w1 W' → Calls Tryd.prog 22 #[.pointer (some ⟨pg, 0, none⟩), .agg #[.int .i64 p, .int .i64 t]] W' fun e w' => e = .returned (.bool false) ∧ Below W'.heap.size W' w') := fun W' hb' => by
    refine (has_calls pg base most n ps p t W' (HD.out.pl.below hb')).mono ?_
    rintro e w' ⟨rfl, hb2⟩
    exact ⟨by rw [HH.out], hb2⟩
  go_cut [12] (fun v12 wc => v12 = .bool true ∧ Hid (Below w1.heap.size w1 wc))
  case first =>
    go_region_held3 (fun w' => w'.cell? ⟨d, 0, none⟩ = some (.pointer (some ⟨pg, 0, none⟩)) ∧ w'.cell? ⟨w.heap.size, 0, none⟩ = some (.int .i64 p) ∧ w'.cell? ⟨w.heap.size, 1, none⟩ = some (.int .i64 t)) (first | go_keep | exact ⟨q0, k0, k1⟩ | exact ⟨(HK1.out.cell (cell_lt q0)).trans q0, (HK1.out.cell (cell_lt k0)).trans k0, (HK1.out.cell (cell_lt k1)).trans k1⟩) (first | (go_at_call 22; (with_reducible refine (HC.out _ (by first | exact HK1.out | exact below_drew1 HK1.out)).mono ?_); rintro e wx ⟨rfl, hb⟩; first | (have HK1 := Lib.hid (below_step HK1.out hb)) | (have HK1 := Lib.hid (show Below w1.heap.size w1 wx from below_step (below_drew1 HK1.out) hb))))
    all_goals (
      go_wp2
      go_meet
      case rel => exact ⟨rfl, HK1.out⟩)
  case rest =>
    obtain ⟨rfl, HBc⟩ := hcut
    clear HK1 HC q0 k0 k1
    have HN2 := Lib.hid (show Hn _ _ _ _ from blk_below HN.out HBc.out)
    have k0 := (blk_cell HN2.out 0).trans (show _ = some (Value.int .i64 p) from rfl)
    have k1 := (blk_cell HN2.out 1).trans (show _ = some (Value.int .i64 t) from rfl)
    go_wp2_with (fail)
    go_at_call 62
    (with_reducible refine (wrongd_calls 3 p t _ (HG.out.below HBc.out) HI.out).mono ?_)
    rintro e w4 ⟨k, rfl, hj, hb⟩
    have HJ := Lib.hid hj
    have HB4 := Lib.hid (below_step (below_step HB.out HBc.out) hb)
    clear hb hj
    go_wp2
    go_ret2
    exact ⟨k, rfl, HJ.out, HB4.out⟩
set_option maxHeartbeats 4000000 in
set_option maxRecDepth 100000 in
theorem find_yes (d base pg M sb : Nat) (most n : Int) (ps : List S108) (snaps : Int) (cap : Nat) (D : DataW Unit) (p t : Int) (w : World) (h : DK w base d pg M most n ps snaps cap D) (hp : (Lit.int .i64 p).wf = true) (hh : hasB ps p t = true) (hs : D.atKey (.int .i64 p) .nil = .lit (.int .i64 (sb : Int))) : Calls Tryd.prog 61 #[.pointer (some ⟨d, 0, none⟩), .agg #[.int .i64 p, .int .i64 t]] w fun e w' => e = .returned (.tuple #[.pointer (some ⟨sb, 0, none⟩), .nilIface]) ∧ Below w.heap.size w w' := by
  have B1 := below_alloc (Below.refl w.heap.size w) (.cells #[.int .i64 p, .int .i64 t] 40)
  have HN := Lib.hid (show Hn (w.alloc (.cells #[.int .i64 p, .int .i64 t] 40)) w.heap.size p t from heap_alloc_new w _)
  have HD := Lib.hid (h.below B1)
  have HB := Lib.hid B1
  have HH := Lib.hid hh
  have HI := Lib.hid hp
  have HS := Lib.hid hs
  clear B1 h hh hp hs
  go_enter Tryd.func61, Tryd.ntmps61
  go_upto_region 1 with (fail)
  generalize w.alloc (.cells #[.int .i64 p, .int .i64 t] 40) = w1 at *
  have q0 := (blk_cell HD.out.hd 0).trans (show _ = some (Value.pointer (some ⟨pg, 0, none⟩)) from rfl)
  have k0 := (blk_cell HN.out 0).trans (show _ = some (Value.int .i64 p) from rfl)
  have k1 := (blk_cell HN.out 1).trans (show _ = some (Value.int .i64 t) from rfl)
  have HK1 := Lib.hid (Below.refl w1.heap.size w1)
  have HC : Hid (∀ W', Below w1.heap.size w1 W' → Calls Tryd.prog 22 #[.pointer (some ⟨pg, 0, none⟩), .agg #[.int .i64 p, .int .i64 t]] W' fun e w' => e = .returned (.bool true) ∧ Below W'.heap.size W' w') := fun W' hb' => by
    refine (has_calls pg base most n ps p t W' (HD.out.pl.below hb')).mono ?_
    rintro e w' ⟨rfl, hb2⟩
    exact ⟨by rw [HH.out], hb2⟩
  go_cut [12] (fun v12 wc => v12 = .bool false ∧ Hid (Below w1.heap.size w1 wc))
  case first =>
    go_region_held3 (fun w' => w'.cell? ⟨d, 0, none⟩ = some (.pointer (some ⟨pg, 0, none⟩)) ∧ w'.cell? ⟨w.heap.size, 0, none⟩ = some (.int .i64 p) ∧ w'.cell? ⟨w.heap.size, 1, none⟩ = some (.int .i64 t)) (first | go_keep | exact ⟨q0, k0, k1⟩ | exact ⟨(HK1.out.cell (cell_lt q0)).trans q0, (HK1.out.cell (cell_lt k0)).trans k0, (HK1.out.cell (cell_lt k1)).trans k1⟩) (first | (go_at_call 22; (with_reducible refine (HC.out _ (by first | exact HK1.out | exact below_drew1 HK1.out)).mono ?_); rintro e wx ⟨rfl, hb⟩; first | (have HK1 := Lib.hid (below_step HK1.out hb)) | (have HK1 := Lib.hid (show Below w1.heap.size w1 wx from below_step (below_drew1 HK1.out) hb))))
    all_goals (
      go_wp2
      go_meet
      case rel => exact ⟨rfl, HK1.out⟩)
  case rest =>
    obtain ⟨rfl, HBc⟩ := hcut
    clear HK1 HC q0 k0 k1
    have HN2 := Lib.hid (show Hn _ _ _ _ from blk_below HN.out HBc.out)
    have HD2 := Lib.hid (HD.out.below HBc.out)
    have k0 := (blk_cell HN2.out 0).trans (show _ = some (Value.int .i64 p) from rfl)
    have q2 := (blk_cell HD2.out.hd 2).trans (show _ = some (Value.map (some M)) from rfl)
    have hlk := HD2.out.mp.look p HI.out HS.out
    have HB2 := Lib.hid (below_step HB.out HBc.out)
    go_wp2_with (fail)
    go_quiet (fail)
    have D4 := Lib.hid (pw_below_drewN HB2.out nq)
    go_wp2
    go_ret2
    exact ⟨rfl, D4.out⟩
end Go.Proofs.YtphaaagcdjpceaaDoor
namespace Go.Proofs.YtphaaagcdjpceaaDoor
open Go.RowKit Go.Extern.Stop Go.Stop Go.Extern Go.Proofs.YtphaaagcdjpceaaDoorW.PrintWords Go.Proofs.YtphaaagcdjpceaaDoorW.PrintLast Go.Proofs.YtphaaagcdjpceaaDoorW.PrintMore
open Go.Maps (Keyed)
set_option linter.unusedVariables false
theorem R_same {α : Type} {d : Kd α} {e base : Nat} {ok : Nat → Prop} {W W1 : World} {v : Value} {xs : List α} (h : d.R e W base ok v xs) (hE : d.E = []) (hs : ∀ k, some k = v.ownBlock → W1.heap[k]? = W.heap[k]?) : d.R e W1 base ok v xs :=
  Kd.R_mono (Kd.R_move (Kd.R_tight hE h) (fun k hk => hs k hk)) (fun k hk => h.1 k hk.symm)
theorem abk_same {W W1 : World} {g : Nat} (h : W1.heap[g]? = W.heap[g]?) : abk W1 g = abk W g := by
  unfold abk
  rw [World.cell?_of_block (a := ⟨g, 1, none⟩) h]
theorem PL.same {W W1 : World} {base g : Nat} {most n : Int} {ps : List S108} (h : PL W base g most ps n) (hg : W1.heap[g]? = W.heap[g]?) (ha : ∀ k, some k = abk W g → W1.heap[k]? = W.heap[k]?) : PL W1 base g most ps n := by
  obtain ⟨h0, A, c, h1, h2⟩ := h
  refine ⟨h0, A, c, hg.trans h1, R_same h2 rfl (fun k hk => ha k ?_)⟩
  rw [hk]
  exact (abk_of ((blk_cell h1 1).trans rfl)).symm
structure Sn where
  wt : Bool
  bv : Value
  bs : List Int
  sg : Nat
  ps : List S108
  n : Int
  mb : Nat
  cap : Nat
  D : DataW Unit
structure SS (W : World) (base sb : Nat) (most : Int) (s : Sn) : Prop where
  hd : W.heap[sb]? = some (.cells #[.bool s.wt, s.bv, .pointer (some ⟨s.sg, 0, none⟩), .map (some s.mb)] 136 (0, 0))
  pl : PL W base s.sg most s.ps s.n
  mp : W.ownsMap Tryd.prog 3 (plainElem Tryd.prog 3) s.mb s.cap s.D
  by_ : Kd.R (Kd.int .u8) 5 W base (fun _ => True) s.bv s.bs
  lo : base ≤ sb ∧ base ≤ s.mb
def foot (W : World) (sb : Nat) (s : Sn) (k : Nat) : Prop := k = sb ∨ k = s.sg ∨ some k = abk W s.sg ∨ k = s.mb ∨ some k = s.bv.ownBlock
theorem SS.same {W W1 : World} {base sb : Nat} {most : Int} {s : Sn} (h : SS W base sb most s) (hs : ∀ k, foot W sb s k → W1.heap[k]? = W.heap[k]?) : SS W1 base sb most s := by
  obtain ⟨h1, h2, ⟨es, clock, hm, r⟩, h4, h5⟩ := h
  exact ⟨(hs sb (.inl rfl)).trans h1, h2.same (hs _ (.inr (.inl rfl))) (fun k hk => hs k (.inr (.inr (.inl hk)))), ⟨es, clock, (hs s.mb (.inr (.inr (.inr (.inl rfl))))).trans hm, r⟩, R_same h4 rfl (fun k hk => hs k (.inr (.inr (.inr (.inr hk))))), h5⟩
theorem SS.lt {W : World} {base sb : Nat} {most : Int} {s : Sn} (h : SS W base sb most s) (k : Nat) (hk : foot W sb s k) : base ≤ k ∧ k < W.heap.size := by
  obtain ⟨h1, ⟨g0, A, c, p1, p2⟩, ⟨es, clock, hm, r⟩, h4, h5⟩ := h
  rcases hk with rfl | rfl | hk | rfl | hk
  · exact ⟨h5.1, blk_lt h1⟩
  · exact ⟨g0, blk_lt p1⟩
  · rw [abk_of ((blk_cell p1 1).trans (show _ = some (Value.slice A s.ps.length c) from rfl))] at hk
    have hb := Kd.R_bound p2
    have := hb.1 k hk.symm
    exact ⟨this.2.1, this.2.2.1⟩
  · exact ⟨h5.2, blk_lt hm⟩
  · have hb := Kd.R_bound h4
    have := hb.1 k hk.symm
    exact ⟨this.2.1, this.2.2.1⟩
theorem SS.below {W W1 : World} {base sb : Nat} {most : Int} {s : Sn} (h : SS W base sb most s) (hb : Below W.heap.size W W1) : SS W1 base sb most s := h.same (fun k hk => hb.block k (h.lt k hk).2)
theorem foot_same {W W1 : World} {sb : Nat} {s : Sn} (h : W1.heap[s.sg]? = W.heap[s.sg]?) (k : Nat) : foot W1 sb s k ↔ foot W sb s k := by unfold foot; rw [abk_same h]
theorem mk131 (w : World) : (Instr.makeMap 131 none).run Tryd.prog w = .ok (.map (some w.heap.size)) (w.alloc (.map #[] 0)) := by kernel_rfl
theorem mk123 (w : World) : (Instr.makeMap 123 none).run Tryd.prog w = .ok (.map (some w.heap.size)) (w.alloc (.map #[] 0)) := by kernel_rfl
end Go.Proofs.YtphaaagcdjpceaaDoor
namespace Go.Proofs.YtphaaagcdjpceaaDoor
open Go.RowKit Go.Extern.Stop Go.Stop Go.Extern Go.Proofs.YtphaaagcdjpceaaDoorW.PrintWords Go.Proofs.YtphaaagcdjpceaaDoorW.PrintLast Go.Proofs.YtphaaagcdjpceaaDoorW.PrintMore
open Go.Maps (Keyed)
set_option linter.unusedVariables false
theorem MP.put {W : World} {M n : Nat} {D : DataW Unit} (h : MP W M n D) (hn : n < maxLen) (p : Int) (hp : (Lit.int .i64 p).wf = true) (b : Nat) : ∃ w', (Instr.mapUpdate 131 (.map (some M)) (.int .i64 p) (.pointer (some ⟨b, 0, none⟩))).run Tryd.prog W = .ok () w' ∧ MP w' M (n + 1) (D.put (.int .i64 p) (.lit (.int .i64 (b : Int)))) ∧ W.grownBy w' (some M) :=
  World.ownsMap.update h key3 Tryd.underlying131 hn (Go.Maps.keyOf_int_mk Tryd.underlying3 hp) rfl
theorem MP.below {W W1 : World} {M n : Nat} {D : DataW Unit} (h : MP W M n D) (hb : Below W.heap.size W W1) : MP W1 M n D := by
  obtain ⟨es, clock, hm, r⟩ := h
  exact ⟨es, clock, (hb.block M (blk_lt hm)).trans hm, r⟩
theorem mp_oth {W W1 : World} {base d pg M : Nat} {most n : Int} {ps : List S108} {snaps : Int} {cap : Nat} {D : DataW Unit} (h : DK W base d pg M most n ps snaps cap D) (ho : Oth pg W W1) : MP W1 M cap D := by
  obtain ⟨h1, ⟨g0, A, c, p1, p2⟩, ⟨es, clock, hm, r⟩⟩ := h
  refine ⟨es, clock, (ho.1 M (blk_lt hm) ?_ ?_).trans hm, r⟩
  · rintro rfl; rw [p1] at hm; cases hm
  · intro he
    rw [abk_of ((blk_cell p1 1).trans (show _ = some (Value.slice A ps.length c) from rfl))] at he
    obtain ⟨cells, hc⟩ := Kd.R_typed p2 M he.symm
    rw [hc] at hm
    cases hm
theorem wf_i64 {x : Int} (h0 : -9223372036854775808 ≤ x) (h1 : x ≤ 9223372036854775807) : (Lit.int .i64 x).wf = true := by
  simp [Lit.wf, IntKind.min, IntKind.max, IntKind.signed, IntKind.bits]
  omega
structure Pu (w3 W w' : World) (M n : Nat) (D : DataW Unit) : Prop where
  mp : MP w' M n D
  bw : Below w3.heap.size w3 W
  gr : W.grownBy w' (some M)
theorem Pu.cell {w3 W w' : World} {M n : Nat} {D : DataW Unit} (h : Pu w3 W w' M n D) {a : Addr} {v : Value} (hc : w3.cell? a = some v) (hne : a.block ≠ M) : w'.cell? a = some v := by
  have hl := cell_lt hc
  have e := h.gr.block a.block (Nat.lt_of_lt_of_le hl h.bw.size) (by intro e; injection e with e; exact hne e)
  rw [World.cell?_of_block e, h.bw.cell hl]
  exact hc
set_option maxRecDepth 100000 in
theorem upon_put {o : Oper} {a : Act} {K : Act → World → Prop} {Q : Exit → Act → World → Prop} {w3 W : World} {M n : Nat} {D : DataW Unit} {p : Int} {b : Nat} {f : Unit → World → Result Next} (hb : Below w3.heap.size w3 W) (h : MP w3 M n D) (hn : n < maxLen) (hp : (Lit.int .i64 p).wf = true)
    (hk : ∀ w', Pu w3 W w' M (n + 1) (D.put (.int .i64 p) (.lit (.int .i64 (b : Int)))) → Oper.upon Tryd.prog o a K Q ((Result.ok () w').andThen f)) :
    Oper.upon Tryd.prog o a K Q ((Sem.run Tryd.prog (Instr.mapUpdate 131 (.map (some M)) (.int .i64 p) (.pointer (some ⟨b, 0, none⟩))) W).andThen f) := by
  obtain ⟨w', hr, h1, h2⟩ := MP.put (h.below hb) hn p hp b
  rw [hr]
  exact hk w' ⟨h1, hb, h2⟩
structure DF (pg M : Nat) (w w' : World) : Prop where
  size : w.heap.size ≤ w'.heap.size
  block : ∀ k, k < w.heap.size → k ≠ pg → some k ≠ abk w pg → k ≠ M → w'.heap[k]? = w.heap[k]?
  row : abk w' pg = abk w pg ∨ ∃ b, abk w' pg = some b ∧ w.heap.size ≤ b
theorem DF.of_oth {pg M : Nat} {w w' : World} (h : Oth pg w w') (hs : w.heap.size ≤ w'.heap.size) : DF pg M w w' := ⟨hs, fun k hk h1 h2 _ => h.1 k hk h1 h2, h.2⟩
theorem DF.trans {pg M : Nat} {a b c : World} (h : DF pg M a b) (k : DF pg M b c) : DF pg M a c := by
  refine ⟨Nat.le_trans h.size k.size, fun j hj h1 h2 h3 => ?_, ?_⟩
  · rw [k.block j (Nat.lt_of_lt_of_le hj h.size) h1 (by
      rcases h.row with e | ⟨x, e, hx⟩
      · rw [e]; exact h2
      · rw [e]; intro he; injection he with he; omega) h3]
    exact h.block j hj h1 h2 h3
  · rcases k.row with e | ⟨x, e, hx⟩
    · rw [e]; exact h.row
    · exact .inr ⟨x, e, Nat.le_trans h.size hx⟩
theorem DF.of_below {pg M : Nat} {w w' : World} (h : Below w.heap.size w w') (hg : pg < w.heap.size) : DF pg M w w' := .of_oth (Oth.of_below h hg) h.size
theorem DF.of_put {pg M : Nat} {w w' : World} (h : w.grownBy w' (some M)) (hg : pg < w.heap.size) (hne : pg ≠ M) : DF pg M w w' :=
  ⟨h.size, fun k hk _ _ h3 => h.block k hk (by simpa using h3), .inl (by unfold abk; rw [World.cell?_of_block (a := ⟨pg, 1, none⟩) (h.block pg hg (by simpa using hne))])⟩
theorem DK.apart {W : World} {base d pg M : Nat} {most n : Int} {ps : List S108} {snaps : Int} {cap : Nat} {D : DataW Unit} (h : DK W base d pg M most n ps snaps cap D) : d ≠ M ∧ pg ≠ M ∧ some M ≠ abk W pg ∧ d ≠ pg ∧ some d ≠ abk W pg := by
  obtain ⟨h1, ⟨g0, A, c, p1, p2⟩, ⟨es, clock, hm, r⟩⟩ := h
  have ea := abk_of ((blk_cell p1 1).trans (show _ = some (Value.slice A ps.length c) from rfl))
  refine ⟨?_, ?_, ?_, ?_, ?_⟩
  · rintro rfl; rw [h1] at hm; cases hm
  · rintro rfl; rw [p1] at hm; cases hm
  · intro he
    rw [ea] at he
    obtain ⟨cells, hc⟩ := Kd.R_typed p2 M he.symm
    rw [hc] at hm
    cases hm
  · rintro rfl; rw [h1] at p1; cases p1
  · intro he
    rw [ea] at he
    obtain ⟨cells, hc⟩ := Kd.R_typed p2 d he.symm
    rw [hc] at h1
    cases h1
theorem DK.put {W wm : World} {base d pg M : Nat} {most n : Int} {ps : List S108} {snaps : Int} {cap cap2 : Nat} {D D2 : DataW Unit} (h : DK W base d pg M most n ps snaps cap D) (hg : W.grownBy wm (some M)) (hm : MP wm M cap2 D2) : DK wm base d pg M most n ps snaps cap2 D2 := by
  obtain ⟨a1, a2, a3, _, _⟩ := h.apart
  refine ⟨(hg.block d (blk_lt h.hd) (by simpa using a1)).trans h.hd, h.pl.same (hg.block pg h.pl.glt (by simpa using a2)) (fun k hk => ?_), hm⟩
  obtain ⟨g0, A, c, p1, p2⟩ := h.pl
  have ea := abk_of ((blk_cell p1 1).trans (show _ = some (Value.slice A ps.length c) from rfl))
  refine hg.block k ?_ (by rintro he; injection he with he; subst he; exact a3 hk)
  rw [ea] at hk
  exact ((Kd.R_bound p2).1 k hk.symm).2.2.1
theorem SS.kept {W wm : World} {base sb M : Nat} {most : Int} {s : Sn} (h : SS W base sb most s) (hg : W.grownBy wm (some M)) (hM : M < base) : SS wm base sb most s :=
  h.same (fun k hk => hg.block k (h.lt k hk).2 (by rintro he; injection he with he; have := (h.lt k hk).1; omega))
def newS (sg mb : Nat) : Sn := ⟨false, .slice none 0 0, [], sg, [], 0, mb, 0, .map []⟩
theorem SS.new {W : World} {base sb sg mb : Nat} {most : Int} (hp : PL W base sg most [] 0) (hm : W.ownsMap Tryd.prog 3 (plainElem Tryd.prog 3) mb 0 (DataW.map [] : DataW Unit)) (hd : W.heap[sb]? = some (.cells #[.bool false, .slice none 0 0, .pointer (some ⟨sg, 0, none⟩), .map (some mb)] 136 (0, 0))) (h1 : base ≤ sb) (h2 : base ≤ mb) : SS W base sb most (newS sg mb) :=
  ⟨hd, hp, hm, Kd.R_nil _ _ _ _ _, h1, h2⟩
theorem PL.lower {W : World} {base b2 g : Nat} {most n : Int} {ps : List S108} (h : PL W base g most ps n) (hb : b2 ≤ base) : PL W b2 g most ps n := by
  obtain ⟨h0, A, c, h1, h2⟩ := h
  exact ⟨Nat.le_trans hb h0, A, c, h1, Kd.R_lower h2 hb⟩
structure Opn (base d pg M : Nat) (most n : Int) (ps : List S108) (snaps : Int) (cap : Nat) (D : DataW Unit) (sm : Int) (sb sg mb : Nat) (w3 wm : World) : Prop where
  dk : DK wm base d pg M most n ps snaps cap D
  ss : SS wm w3.heap.size sb sm (newS sg mb)
  df : DF pg M w3 wm
  be : Below base w3 wm
  fr : ∀ k, some k = abk wm sg → some k ≠ abk wm pg
theorem PL.abl {W : World} {base g : Nat} {most n : Int} {ps : List S108} (h : PL W base g most ps n) (k : Nat) (hk : some k = abk W g) : base ≤ k ∧ k < W.heap.size := by
  obtain ⟨g0, A, c, p1, p2⟩ := h
  rw [abk_of ((blk_cell p1 1).trans (show _ = some (Value.slice A ps.length c) from rfl))] at hk
  have := (Kd.R_bound p2).1 k hk.symm
  exact ⟨this.2.1, this.2.2.1⟩
theorem opn_of {base d pg M : Nat} {most n : Int} {ps : List S108} {snaps : Int} {cap : Nat} {D D2 : DataW Unit} {sm : Int} {sb sg mb : Nat} {w3 wP wm : World} (hdk : DK w3 base d pg M most n ps snaps cap D) (hlo : base ≤ w3.heap.size) (hM : base ≤ M) (hpl : PL wP w3.heap.size sg sm [] 0) (hmp : wP.ownsMap Tryd.prog 3 (plainElem Tryd.prog 3) mb 0 (DataW.map [] : DataW Unit))
    (hsb : wP.heap[sb]? = some (.cells #[.bool false, .slice none 0 0, .pointer (some ⟨sg, 0, none⟩), .map (some mb)] 136 (0, 0))) (h1 : w3.heap.size ≤ sb) (h2 : w3.heap.size ≤ mb) (hpu : Pu w3 wP wm M (cap + 1) D2) : Opn base d pg M most n ps snaps (cap + 1) D2 sm sb sg mb w3 wm := by
  have hM3 : M < w3.heap.size := by obtain ⟨es, clock, hm, _⟩ := hdk.mp; exact blk_lt hm
  have hg3 := hdk.pl.glt
  have hss := (SS.new hpl hmp hsb h1 h2).kept hpu.gr hM3
  refine ⟨(hdk.below hpu.bw).put hpu.gr hpu.mp, hss, (DF.of_below hpu.bw hg3).trans (DF.of_put hpu.gr (Nat.lt_of_lt_of_le hg3 hpu.bw.size) hdk.apart.2.1), Below.grown (hpu.bw.mono hlo) hpu.gr (Nat.le_trans hlo hpu.bw.size) (fun k hk => by injection hk with hk; subst hk; exact hM), fun k hk hk2 => ?_⟩
  have e : abk wm pg = abk w3 pg := (abk_same (hpu.gr.block pg (Nat.lt_of_lt_of_le hg3 hpu.bw.size) (by rintro e; injection e with e; exact hdk.apart.2.1 e))).trans (abk_same (hpu.bw.block pg hg3))
  rw [e] at hk2
  have l1 := (hss.lt k (.inr (.inr (.inl hk)))).1
  have l2 := (hdk.pl.abl k hk2).2
  omega
theorem opn_A {base d pg M : Nat} {most n : Int} {ps : List S108} {snaps : Int} {cap : Nat} {D D2 : DataW Unit} {sm : Int} {w3 wx wm : World} (hdk : DK w3 base d pg M most n ps snaps cap D) (hlo : base ≤ w3.heap.size) (hM : base ≤ M) (hpl : PL wx (w3.alloc (Obj.map #[] 0)).drew.heap.size (w3.alloc (Obj.map #[] 0)).drew.heap.size sm [] 0) (hb : Below (w3.alloc (Obj.map #[] 0)).drew.heap.size (w3.alloc (Obj.map #[] 0)).drew wx)
    (hpu : Pu w3 (wx.alloc (Obj.cells #[.bool false, .slice none 0 0, .pointer (some ⟨w3.heap.size + 1, 0, none⟩), .map (some w3.heap.size)] 136)) wm M (cap + 1) D2) : Opn base d pg M most n ps snaps (cap + 1) D2 sm wx.heap.size (w3.heap.size + 1) w3.heap.size w3 wm := by
  have e : (w3.alloc (Obj.map #[] 0)).drew.heap.size = w3.heap.size + 1 := World.size_alloc w3 _
  rw [e] at hpl hb
  have hs : w3.heap.size + 1 ≤ wx.heap.size := by have := hb.size; rw [e] at this; exact this
  have B := below_alloc (Below.refl wx.heap.size wx) (Obj.cells #[.bool false, .slice none 0 0, .pointer (some ⟨w3.heap.size + 1, 0, none⟩), .map (some w3.heap.size)] 136)
  have hm0 := World.ownsMap_made w3 Tryd.prog 3 (plainElem Tryd.prog 3 (H := Unit))
  have hmx : wx.ownsMap Tryd.prog 3 (plainElem Tryd.prog 3) w3.heap.size 0 (DataW.map [] : DataW Unit) := by
    obtain ⟨es, clock, hm, r⟩ := hm0
    exact ⟨es, clock, (hb.block w3.heap.size (by omega)).trans hm, r⟩
  exact opn_of hdk hlo hM ((hpl.lower (by omega)).below B) (hmx.alloc _) (heap_alloc_new wx _) (by omega) (Nat.le_refl _) hpu
theorem opn_B {base d pg M : Nat} {most n : Int} {ps : List S108} {snaps : Int} {cap : Nat} {D D2 : DataW Unit} {sm : Int} {w3 wx wm : World} (hdk : DK w3 base d pg M most n ps snaps cap D) (hlo : base ≤ w3.heap.size) (hM : base ≤ M) (hpl : PL wx w3.drew.heap.size w3.drew.heap.size sm [] 0) (hk : Below w3.heap.size w3 wx)
    (hpu : Pu w3 ((wx.alloc (Obj.map #[] 0)).alloc (Obj.cells #[.bool false, .slice none 0 0, .pointer (some ⟨w3.heap.size, 0, none⟩), .map (some wx.heap.size)] 136)) wm M (cap + 1) D2) : Opn base d pg M most n ps snaps (cap + 1) D2 sm (wx.heap.size + 1) w3.heap.size wx.heap.size w3 wm := by
  have hpl2 : PL wx w3.heap.size w3.heap.size sm [] 0 := hpl
  have hs := hk.size
  have B1 := below_alloc (Below.refl wx.heap.size wx) (Obj.map #[] 0)
  have B := below_alloc B1 (Obj.cells #[.bool false, .slice none 0 0, .pointer (some ⟨w3.heap.size, 0, none⟩), .map (some wx.heap.size)] 136)
  have hm0 := World.ownsMap_made wx Tryd.prog 3 (plainElem Tryd.prog 3 (H := Unit))
  have hn := heap_alloc_new (wx.alloc (Obj.map #[] 0)) (Obj.cells #[.bool false, .slice none 0 0, .pointer (some ⟨w3.heap.size, 0, none⟩), .map (some wx.heap.size)] 136)
  rw [World.size_alloc] at hn
  exact opn_of hdk hlo hM (hpl2.below B) (hm0.alloc _) hn (by omega) (by omega) hpu
theorem SS.lower {W : World} {base b2 sb : Nat} {most : Int} {s : Sn} (h : SS W base sb most s) (hb : b2 ≤ base) : SS W b2 sb most s :=
  ⟨h.hd, h.pl.lower hb, h.mp, Kd.R_lower h.by_ hb, Nat.le_trans hb h.lo.1, Nat.le_trans hb h.lo.2⟩
theorem DK.only {W W' : World} {base d pg M : Nat} {most n : Int} {ps : List S108} {snaps : Int} {cap : Nat} {D : DataW Unit} (h : DK W base d pg M most n ps snaps cap D) {x : Nat} {a b : Int} (hx : Hn W x a b) (ho : ∀ k, k ≠ x → W'.heap[k]? = W.heap[k]?) : DK W' base d pg M most n ps snaps cap D := by
  obtain ⟨h1, hp, ⟨es, clock, hm, r⟩⟩ := h
  have hx' : W.heap[x]? = some (Obj.cells #[.int .i64 a, .int .i64 b] 40 (0, 0)) := hx
  refine ⟨(ho d ?_).trans h1, ?_, ⟨es, clock, (ho M ?_).trans hm, r⟩⟩
  · rintro rfl; rw [h1] at hx'; cases hx'
  · obtain ⟨g0, A, c, p1, p2⟩ := hp
    refine PL.same ⟨g0, A, c, p1, p2⟩ (ho pg ?_) (fun k hk => ho k ?_)
    · rintro rfl; rw [p1] at hx'; cases hx'
    · rintro rfl
      rw [abk_of ((blk_cell p1 1).trans (show _ = some (Value.slice A ps.length c) from rfl))] at hk
      obtain ⟨cells, hc⟩ := Kd.R_typed p2 k hk.symm
      rw [hc] at hx'; cases hx'
  · rintro rfl; rw [hm] at hx'; cases hx'
theorem SS.only {W W' : World} {base sb : Nat} {most : Int} {s : Sn} (h : SS W base sb most s) {x : Nat} (hx : x < base) (ho : ∀ k, k ≠ x → W'.heap[k]? = W.heap[k]?) : SS W' base sb most s :=
  h.same (fun k hk => ho k (by have := (h.lt k hk).1; omega))
theorem Pu.hn {w3 W w' : World} {M n cap : Nat} {D D0 : DataW Unit} (h : Pu w3 W w' M n D) (hm : MP w3 M cap D0) {g : Nat} {a b : Int} (hh : Hn w3 g a b) : Hn w' g a b := by
  have hh' : w3.heap[g]? = some (Obj.cells #[.int .i64 a, .int .i64 b] 40 (0, 0)) := hh
  have hne : g ≠ M := by
    rintro rfl
    obtain ⟨es, clock, hm1, _⟩ := hm
    rw [hm1] at hh'; cases hh'
  exact (h.gr.block g (Nat.lt_of_lt_of_le (blk_lt hh') h.bw.size) (by rintro e; injection e with e; exact hne e)).trans ((h.bw.block g (blk_lt hh')).trans hh')
theorem Opn.whole {base d pg M : Nat} {most n : Int} {ps : List S108} {snaps : Int} {cap : Nat} {D : DataW Unit} {sm : Int} {sb sg mb x : Nat} {a b : Int} {w w3 wm wn : World} (h : Opn base d pg M most n ps snaps cap D sm sb sg mb w3 wm) (hf : DF pg M w w3) (hb : Below base w w3) (hx : Hn wm x a b) (hx0 : w.heap.size ≤ x) (hx3 : x < w3.heap.size) (hbx : base ≤ x)
    (ho : ∀ k, k ≠ x → wn.heap[k]? = wm.heap[k]?) (hs : wn.heap.size = wm.heap.size) (h1 : wn.os = wm.os) (h2 : wn.tape = wm.tape) (h3 : wn.output = wm.output) : Opn base d pg M most n ps snaps cap D sm sb sg mb w wn := by
  have dk := h.dk.only hx ho
  have hpx : pg ≠ x := by
    obtain ⟨g0, A, c, p1, p2⟩ := h.dk.pl
    have hx' : wm.heap[x]? = some (Obj.cells #[.int .i64 a, .int .i64 b] 40 (0, 0)) := hx
    rintro rfl; rw [p1] at hx'; cases hx'
  have e : abk wn pg = abk wm pg := abk_same (ho pg hpx)
  have e2 : abk wn sg = abk wm sg := abk_same (ho sg (by
    have := (h.ss.lt sg (.inr (.inl rfl))).1
    omega))
  have f := hf.trans h.df
  refine ⟨dk, (h.ss.only hx3 ho).lower hf.size, ⟨by rw [hs]; exact f.size, fun k hk k1 k2 k3 => (ho k (by omega)).trans (f.block k hk k1 k2 k3), by rw [e]; exact f.row⟩, ?_, fun k hk => by rw [e]; exact h.fr k (by rw [← e2]; exact hk)⟩
  have g := hb.trans h.be
  exact ⟨h1.trans g.os, h2.trans g.tape, h3.trans g.output, by rw [hs]; exact g.size, fun k hk => (ho k (by omega)).trans (g.block k hk)⟩
set_option maxHeartbeats 8000000 in
set_option maxRecDepth 100000 in
theorem open_ok (d base pg M : Nat) (most n : Int) (ps : List S108) (snaps : Int) (cap : Nat) (D : DataW Unit) (i : Nat) (w : World) (h : DK w base d pg M most n ps snaps cap D) (hlo : base ≤ w.heap.size) (hM : base ≤ M) (hcap : cap < 1000) (hi : i ≤ ps.length) (hf : ∀ j, j < i → (plc ps j).f1 = true) (hf2 : i < ps.length → (plc ps i).f1 = false) (hm : (i : Int) ≠ most) (hl : ps.length ≤ 1000) (ht0 : 0 ≤ turnOf ps i) (ht1 : turnOf ps i ≤ 1000000) (hn0 : -1000000 ≤ n) (hn1 : n ≤ 1000000) :
    Calls Tryd.prog 40 #[.pointer (some ⟨d, 0, none⟩)] w fun e w' => ∃ sb sg mb : Nat, e = .returned (.tuple #[.agg #[.int .i64 (i : Int), .int .i64 (turnOf ps i)], .nilIface]) ∧ Opn base d pg M most (n + 1) (tookL ps i) snaps (cap + 1) (D.put (.int .i64 (i : Int)) (.lit (.int .i64 (sb : Int)))) (min (max snaps 0) 10000) sb sg mb w w' := by
  have B1 := below_alloc (Below.refl w.heap.size w) (.cells #[.int .i64 0, .int .i64 0] 40)
  have HN := Lib.hid (show Hn (w.alloc (.cells #[.int .i64 0, .int .i64 0] 40)) w.heap.size 0 0 from heap_alloc_new w _)
  have HD := Lib.hid (h.below B1)
  have HB := Lib.hid B1
  have HA := Lib.hid (And.intro hi (And.intro hf (And.intro hf2 (And.intro hm (And.intro hl (And.intro ht0 (And.intro ht1 (And.intro hn0 hn1))))))))
  have h0 := h
  clear B1 h hi hf hf2 hm hl ht0 ht1 hn0 hn1
  have q0 := (blk_cell HD.out.hd 0).trans (show _ = some (Value.pointer (some ⟨pg, 0, none⟩)) from rfl)
  go_enter Tryd.func40, Tryd.ntmps40
  go_wp2_with (fail)
  generalize hw1 : w.alloc (.cells #[.int .i64 0, .int .i64 0] 40) = w1 at *
  clear hw1
  obtain ⟨hi, hf, hf2, hm, hl, ht0, ht1, hn0, hn1⟩ := HA.out
  go_at_call 16
  (with_reducible refine (take_oq pg base most n ps i _ HD.out.pl hi hf hf2 hm hl ht0 ht1 hn0 hn1).mono ?_)
  rintro e w2 ⟨rfl, h2, f2⟩
  clear hi hf hf2 hm hl ht0 ht1 hn0 hn1
  generalize htn : turnOf ps i = tn at *
  have HTN := Lib.hid htn
  clear htn
  have B2 := below_alloc (Below.refl w2.heap.size w2) (.cells #[.int .i64 (i : Int), .int .i64 tn] 40)
  have HX := Lib.hid (show Hn (w2.alloc (.cells #[.int .i64 (i : Int), .int .i64 tn] 40)) w2.heap.size (i : Int) tn from heap_alloc_new w2 _)
  have HP2 := Lib.hid (h2.below B2)
  have HD2 := Lib.hid (blk_below ((f2.fr.2.2 d _ _ _ HD.out.hd (by decide)).trans HD.out.hd) B2)
  have HM3 := Lib.hid (show MP (w2.alloc (.cells #[.int .i64 (i : Int), .int .i64 tn] 40)) M cap D from World.ownsMap.alloc (mp_oth HD.out f2.oth) _)
  have HR3 := Lib.hid (show Hn (w2.alloc (.cells #[.int .i64 (i : Int), .int .i64 tn] 40)) w.heap.size 0 0 from blk_below ((f2.fr.2.2 w.heap.size _ _ _ HN.out (by decide)).trans HN.out) B2)
  have HF3 := Lib.hid (((DF.of_below (M := M) HB.out (h0.pl.glt)).trans (DF.of_oth f2.oth f2.fr.1.size)).trans (DF.of_below B2 (Nat.lt_of_lt_of_le HD.out.pl.glt f2.fr.1.size)))
  have HL3 := Lib.hid (((HB.out.mono hlo).trans f2.fr.1).trans (B2.mono (Nat.le_trans (Nat.le_trans hlo HB.out.size) f2.fr.1.size)))
  have HDK := Lib.hid (show DK (w2.alloc (.cells #[.int .i64 (i : Int), .int .i64 tn] 40)) base d pg M most (n + 1) (tookL ps i) snaps cap D from ⟨HD2.out, HP2.out, HM3.out⟩)
  have HLM := Lib.hid (And.intro hlo hM)
  clear h2 B2 q0 h0 hlo hM
  go_upto_region 4 with (fail)
  generalize w2.alloc (.cells #[.int .i64 (i : Int), .int .i64 tn] 40) = w3 at *
  have c1 := (blk_cell HD2.out 1).trans (show _ = some (Value.int .i64 snaps) from rfl)
  have c2 := (blk_cell HD2.out 2).trans (show _ = some (Value.map (some M)) from rfl)
  have k0 := (blk_cell HX.out 0).trans (show _ = some (Value.int .i64 (i : Int)) from rfl)
  have hmk := mk123
  have HWF := Lib.hid (show (Lit.int .i64 (i : Int)).wf = true from wf_i64 (by omega) (by have := HA.out.1; have := HA.out.2.2.2.2.1; omega))
  have hdM : d ≠ M := by
    rintro rfl
    obtain ⟨es, clock, hm, _⟩ := HM3.out
    rw [HD2.out] at hm; cases hm
  have hxM : w2.heap.size ≠ M := by
    intro e
    obtain ⟨es, clock, hm, _⟩ := HM3.out
    have hx := HX.out
    unfold Hn at hx
    rw [e, hm] at hx; cases hx
  have HNM := Lib.hid (And.intro hdM hxM)
  clear hdM hxM
  have HCP := Lib.hid (show cap < maxLen by show cap < 9223372036854775807; omega)
  have HLW := Lib.hid (show base ≤ w3.heap.size from Nat.le_trans HLM.out.1 HF3.out.size)
  go_cut [4] (fun v4 wc => v4 = .pointer (some ⟨w2.heap.size, 0, none⟩) ∧ ∃ sb sg mb : Nat, Hid (Opn base d pg M most (n + 1) (tookL ps i) snaps (cap + 1) (D.put (.int .i64 (i : Int)) (.lit (.int .i64 (sb : Int)))) (min (max snaps 0) 10000) sb sg mb w3 wc) ∧ Hid (Hn wc w2.heap.size (i : Int) tn) ∧ Hid (Hn wc w.heap.size 0 0))
  case first =>
    have HK1 := Lib.hid (Below.refl w3.heap.size w3)
    go_region_held3 (fun w' => w'.cell? ⟨d, 1, none⟩ = some (.int .i64 snaps) ∧ w'.cell? ⟨d, 2, none⟩ = some (.map (some M)) ∧ w'.cell? ⟨w2.heap.size, 0, none⟩ = some (.int .i64 (i : Int))) (first | go_keep | exact ⟨c1, c2, k0⟩ | exact ⟨HPU.out.cell c1 HNM.out.1, HPU.out.cell c2 HNM.out.1, HPU.out.cell k0 HNM.out.2⟩ | exact ⟨(HK1.out.cell (cell_lt c1)).trans c1, (HK1.out.cell (cell_lt c2)).trans c2, (HK1.out.cell (cell_lt k0)).trans k0⟩) (first | (go_at_call 15; (with_reducible refine (newpool_calls snaps _).mono ?_); rintro e wx ⟨rfl, hpl, hb⟩; have HPL := Lib.hid hpl; first | (have HK1 := Lib.hid (below_step HK1.out hb)) | (have HK1 := Lib.hid (show Below w3.heap.size w3 wx from below_step (below_drew1 HK1.out) hb)) | (have HK1 := Lib.hid (show Below w3.heap.size w3 wx from below_step (below_alloc (below_drew1 HK1.out) _) hb))) | (refine upon_put (w3 := w3) ?hbw HM3.out HCP.out HWF.out ?_; (case hbw => repeat (first | exact HK1.out | (with_reducible first | apply below_alloc | apply below_drew1))); intro wm hm1; have HPU := Lib.hid hm1; clear hm1; go_simp))
    all_goals (
      go_wp2
      go_meet
      case rel => first
        | exact ⟨rfl, _, _, _, Lib.hid (opn_A HDK.out HLW.out HLM.out.2 hpl hb HPU.out), Lib.hid (HPU.out.hn HM3.out HX.out), Lib.hid (HPU.out.hn HM3.out HR3.out)⟩
        | exact ⟨rfl, _, _, _, Lib.hid (opn_B HDK.out HLW.out HLM.out.2 HPL.out HK1.out HPU.out), Lib.hid (HPU.out.hn HM3.out HX.out), Lib.hid (HPU.out.hn HM3.out HR3.out)⟩)
  case rest =>
    obtain ⟨rfl, sb, sg, mb, HO, HXc, HRc⟩ := hcut
    have hx0 := (blk_cell HXc.out 0).trans (show _ = some (Value.int .i64 (i : Int)) from rfl)
    have hx1 := (blk_cell HXc.out 1).trans (show _ = some (Value.int .i64 tn) from rfl)
    have hr0 := (blk_cell HRc.out 0).trans (show _ = some (Value.int .i64 0) from rfl)
    have hr1 := (blk_cell HRc.out 1).trans (show _ = some (Value.int .i64 0) from rfl)
    have hz0 := blk_frozen HRc.out 0
    have hz1 := blk_frozen HRc.out 1
    have hlt : w.heap.size < w3.heap.size := blk_lt HR3.out
    have HFIN := Lib.hid (HO.out.whole HF3.out HL3.out HRc.out (Nat.le_refl _) hlt HLM.out.1 (wn := (wc.setCell ⟨w.heap.size, 0, none⟩ (.int .i64 (i : Int))).setCell ⟨w.heap.size, 1, none⟩ (.int .i64 tn)) (fun k hk => (Below.heap_setCell _ ⟨w.heap.size, 1, none⟩ _ k hk).trans (Below.heap_setCell wc ⟨w.heap.size, 0, none⟩ _ k hk)) (by simp [World.setCell]) rfl rfl rfl)
    have hB := blk_set (blk_set HRc.out 0 (.int .i64 (i : Int))) 1 (.int .i64 tn)
    have r0 := (blk_cell hB 0).trans (show _ = some (Value.int .i64 (i : Int)) from rfl)
    have r1 := (blk_cell hB 1).trans (show _ = some (Value.int .i64 tn) from rfl)
    clear hB hlt HO
    go_wp2_with (fail)
    exact bodyPost_ret (v := .tuple #[.agg #[.int .i64 (i : Int), .int .i64 tn], .nilIface]) (by simp [results, Tryd.results40, go_sem, r0, r1]) rfl ⟨_, _, _, by rw [HTN.out], HFIN.out⟩
end Go.Proofs.YtphaaagcdjpceaaDoor
namespace Go.Proofs.YtphaaagcdjpceaaDoor
open Go.RowKit Go.Extern.Stop Go.Stop Go.Extern Go.Proofs.YtphaaagcdjpceaaDoorW.PrintWords Go.Proofs.YtphaaagcdjpceaaDoorW.PrintLast Go.Proofs.YtphaaagcdjpceaaDoorW.PrintMore
set_option linter.unusedVariables false
theorem info5 : (Tryd.prog.info? 5).map (fun i => (i.zero, i.size, i.bytes)) = some (some (.int .u8 0), 1, 1) := by kernel_rfl
theorem eq80_nil (n c : Nat) (W : World) : (binOp .eql 80 (.slice none n c) (.slice none 0 0)).run Tryd.prog W = .ok (.bool true) W := by kernel_rfl
theorem eq80_some (ad : Addr) (n c : Nat) (W : World) : (binOp .eql 80 (.slice (some ad) n c) (.slice none 0 0)).run Tryd.prog W = .ok (.bool false) W := by kernel_rfl
attribute [local go_sem] eq80_nil eq80_some
set_option maxRecDepth 100000 in
theorem clone_nil (c : Nat) (W : World) : Calls Tryd.prog 63 #[.slice none 0 c] W fun e w' => e = .returned (.slice none 0 0) ∧ Below W.heap.size W w' := by
  go_enter Tryd.func63, Tryd.ntmps63
  go_wp2
  go_ret
  exact ⟨rfl, Below.refl _ _⟩
set_option maxHeartbeats 2000000 in
set_option maxRecDepth 100000 in
theorem clone_some (ad : Addr) (c : Nat) (bs : List Int) (W : World) (hc : Kd.C (Kd.int .u8) W (some ad) bs.length bs) (hl : bs.length ≤ 100000) : Calls Tryd.prog 63 #[.slice (some ad) bs.length c] W fun e w' => ∃ v', e = .returned v' ∧ Kd.R (Kd.int .u8) 5 w' W.heap.size (fun _ => True) v' bs ∧ Below W.heap.size W w' := by
  have HC := Lib.hid hc
  have HL := Lib.hid hl
  clear hc hl
  have HB := Lib.hid (Below.refl W.heap.size W)
  go_enter Tryd.func63, Tryd.ntmps63
  go_wp2_with (first | ((with_reducible refine gate_dst (N := 5) rfl ?_); refine Kd.R_lit (Kd.int .u8) W.heap.size 5 ?hg (N := 5) ?hd (w0 := W) (xs := ([] : List Int)) (inner := []) (ok := fun _ => True) (okp := fun _ => True) ?hr ?hp (fun _ hk => hk) trivial HB.out (Nat.le_refl _) (by simp) ?_; (case hd => rfl); (case hg => rfl); (case hr => first | (go_simp; done) | (go_simp; rfl)); (case hp => exact (Reps.none _ _)); intro v1 w1 ho hb hg_ hnew_; have HO := Lib.hid ho; have HB1 := Lib.hid hb; clear hg_ hnew_ ho hb) | ((with_reducible refine gate_builtin (b := .append) (xs := #[.tmp 5, .tmp 6]) rfl ?_); refine Kd.R_append_rows (Kd.int .u8) (w0 := W) W.heap.size rfl (.tmp 5) (.tmp 6) 80 5 (.int .u8 0) 1 rfl Tryd.underlying80 info5 rfl (by decide) (by decide) _ [] bs _ _ _ (fun _ => True) (fun _ => False) rfl rfl HO.out (Kd.C_below HC.out HB1.out) (fun _ _ h => h) (fun _ h => h.elim) (fun _ _ => trivial) HB1.out (below_size HB1.out) (by have := HL.out; simp only [List.length_nil]; omega) ?_; intro v2 w2 ho hb hg_ hnew_; have HO2 := Lib.hid ho; have HB2 := Lib.hid hb; clear hg_ hnew_ ho hb))
  go_ret
  exact ⟨_, rfl, HO2.out, HB2.out⟩
end Go.Proofs.YtphaaagcdjpceaaDoor
namespace Go.Proofs.YtphaaagcdjpceaaDoor
open Go.RowKit Go.Extern.Stop Go.Stop Go.Extern Go.Proofs.YtphaaagcdjpceaaDoorW.PrintWords Go.Proofs.YtphaaagcdjpceaaDoorW.PrintLast Go.Proofs.YtphaaagcdjpceaaDoorW.PrintMore
set_option linter.unusedVariables false
structure SF (sb : Nat) (w w' : World) : Prop where
  size : w.heap.size ≤ w'.heap.size
  block : ∀ k, k < w.heap.size → k ≠ sb → w'.heap[k]? = w.heap[k]?
theorem SF.of_below {sb : Nat} {w w' : World} (h : Below w.heap.size w w') : SF sb w w' := ⟨h.size, fun k hk _ => h.block k hk⟩
theorem SF.trans {sb : Nat} {a b c : World} (h : SF sb a b) (k : SF sb b c) : SF sb a c := ⟨Nat.le_trans h.size k.size, fun j hj hn => (k.block j (Nat.lt_of_lt_of_le hj h.size) hn).trans (h.block j hj hn)⟩
theorem SF.set (sb j : Nat) (w : World) (v : Value) : SF sb w (w.setCell ⟨sb, j, none⟩ v) := ⟨by simp [World.setCell], fun k _ hn => Below.heap_setCell w ⟨sb, j, none⟩ v k hn⟩
theorem SS.apart {W : World} {base sb : Nat} {most : Int} {s : Sn} (h : SS W base sb most s) : sb ≠ s.sg ∧ some sb ≠ abk W s.sg ∧ sb ≠ s.mb ∧ some sb ≠ s.bv.ownBlock := by
  obtain ⟨h1, ⟨g0, A, c, p1, p2⟩, ⟨es, clock, hm, r⟩, h4, h5⟩ := h
  refine ⟨?_, ?_, ?_, ?_⟩
  · intro e; rw [← e, h1] at p1; cases p1
  · intro he
    rw [abk_of ((blk_cell p1 1).trans (show _ = some (Value.slice A s.ps.length c) from rfl))] at he
    obtain ⟨cells, hc⟩ := Kd.R_typed p2 sb he.symm
    rw [hc] at h1; cases h1
  · intro e; rw [← e, h1] at hm; cases hm
  · intro he
    obtain ⟨cells, hc⟩ := Kd.R_typed h4 sb he.symm
    rw [hc] at h1; cases h1
theorem clone_C (A : Option Addr) (c : Nat) (bs : List Int) (W : World) (hc : Kd.C (Kd.int .u8) W A bs.length bs) (hl : bs.length ≤ 100000) : Calls Tryd.prog 63 #[.slice A bs.length c] W fun e w' => ∃ v', e = .returned v' ∧ Kd.R (Kd.int .u8) 5 w' W.heap.size (fun _ => True) v' bs ∧ Below W.heap.size W w' := by
  cases A with
  | none =>
    have h0 : bs = [] := by
      cases bs with
      | nil => rfl
      | cons b r => obtain ⟨ad, e, _⟩ := Kd.at_int hc 0 (by omega) (by simp); cases e
    subst h0
    exact (clone_nil c W).mono fun e w' h => ⟨_, h.1, Kd.R_nil _ _ _ _ _, h.2⟩
  | some ad => exact clone_some ad c bs W hc hl
theorem SS.bytes {W : World} {base sb : Nat} {sm : Int} {s : Sn} (h : SS W base sb sm s) {b2 : Nat} {v' : Value} {bs : List Int} (hR : Kd.R (Kd.int .u8) 5 W b2 (fun _ => True) v' bs) (hsb : sb < b2) (hb2 : base ≤ b2) (b : Bool) :
    SS ((W.setCell ⟨sb, 0, none⟩ (.bool b)).setCell ⟨sb, 1, none⟩ v') base sb sm { s with wt := b, bv := v', bs := bs } := by
  obtain ⟨a1, a2, a3, a4⟩ := h.apart
  have ho : ∀ k, k ≠ sb → ((W.setCell ⟨sb, 0, none⟩ (.bool b)).setCell ⟨sb, 1, none⟩ v').heap[k]? = W.heap[k]? := fun k hk => (Below.heap_setCell _ ⟨sb, 1, none⟩ _ k hk).trans (Below.heap_setCell W ⟨sb, 0, none⟩ _ k hk)
  obtain ⟨h1, h2, ⟨es, clock, hm, r⟩, h4, h5⟩ := h
  refine ⟨blk_set (blk_set h1 0 _) 1 _, h2.same (ho _ a1.symm) (fun k hk => ho k (by rintro rfl; exact a2 hk)), ⟨es, clock, (ho s.mb a3.symm).trans hm, r⟩, ?_, h5⟩
  exact R_same (Kd.R_lower hR hb2) rfl (fun k hk => ho k (by have := (Kd.R_bound hR).1 k hk.symm; have := this.2.1; omega))
set_option maxHeartbeats 4000000 in
set_option maxRecDepth 100000 in
theorem send_ok (d base pg M sb : Nat) (most n : Int) (ps : List S108) (snaps : Int) (cap : Nat) (D : DataW Unit) (p t : Int) (sm : Int) (s : Sn) (w : World) (h : DK w base d pg M most n ps snaps cap D) (hp : (Lit.int .i64 p).wf = true) (hh : hasB ps p t = true) (hs : D.atKey (.int .i64 p) .nil = .lit (.int .i64 (sb : Int)))
    (hS : SS w base sb sm s) (hw : s.wt = false) (A : Option Addr) (c : Nat) (bs : List Int) (hb : Kd.C (Kd.int .u8) w A bs.length bs) (hl : bs.length ≤ 100000) :
    Calls Tryd.prog 41 #[.pointer (some ⟨d, 0, none⟩), .agg #[.int .i64 p, .int .i64 t], .slice A bs.length c] w fun e w' => ∃ v', e = .returned .nilIface ∧ SS w' base sb sm { s with wt := true, bv := v', bs := bs } ∧ Kd.R (Kd.int .u8) 5 w' w.heap.size (fun _ => True) v' bs ∧ SF sb w w' ∧ Below base w w' := by
  have B1 := below_alloc (Below.refl w.heap.size w) (.cells #[.int .i64 p, .int .i64 t] 40)
  have HN := Lib.hid (show Hn (w.alloc (.cells #[.int .i64 p, .int .i64 t] 40)) w.heap.size p t from heap_alloc_new w _)
  have HD := Lib.hid (h.below B1)
  have HS := Lib.hid (hS.below B1)
  have HC := Lib.hid (Kd.C_below hb B1)
  have HB := Lib.hid B1
  have HA := Lib.hid (And.intro hp (And.intro hh (And.intro hs (And.intro hw hl))))
  have HLT := Lib.hid (And.intro (show sb < w.heap.size from blk_lt hS.hd) hS.lo.1)
  clear B1 h hp hh hs hS hw hb hl
  go_enter Tryd.func41, Tryd.ntmps41
  go_upto_region 1 with (fail)
  generalize w.alloc (.cells #[.int .i64 p, .int .i64 t] 40) = w1 at *
  have q0 := (blk_cell HN.out 0).trans (show _ = some (Value.int .i64 p) from rfl)
  have q1 := (blk_cell HN.out 1).trans (show _ = some (Value.int .i64 t) from rfl)
  have b1 : decide (100000 < (bs.length : Int)) = false := decide_eq_false (by have := HA.out.2.2.2.2; omega)
  have b1' : decide (100000 < bs.length) = false := decide_eq_false (by have := HA.out.2.2.2.2; omega)
  go_upto_region 6 with (go_at_call 61; (with_reducible refine (find_yes d base pg M sb most n ps snaps cap D p t _ HD.out HA.out.1 HA.out.2.1 HA.out.2.2.1).mono ?_); rintro e w2 ⟨rfl, hb⟩; have HB2 := Lib.hid (below_step HB.out hb); have HS2 := Lib.hid (HS.out.below hb); have HC2 := Lib.hid (Kd.C_below HC.out hb); clear hb)
  have HD2 := Lib.hid HS2.out.hd
  have s0 := (blk_cell HD2.out 0).trans (show _ = some (Value.bool s.wt) from rfl)
  rw [HA.out.2.2.2.1] at s0
  have s1 := (blk_cell HD2.out 1).trans (show _ = some s.bv from rfl)
  go_upto_region 8 with (fail)
  clear s0 s1 q0 q1 b1 b1'
  go_wp2_with (go_at_call 63; (with_reducible refine (clone_C A c bs _ HC2.out HA.out.2.2.2.2).mono ?_); rintro e w3 ⟨v', rfl, hr, hb⟩; obtain ⟨A', c', rfl⟩ := Kd.R_slice hr; have HB3 := Lib.hid (below_step HB2.out hb); have HS3 := Lib.hid (HS2.out.below hb); have HR3 := Lib.hid hr; have s0 := (blk_cell HS3.out.hd 0).trans (show _ = some (Value.bool s.wt) from rfl); have s1 := (blk_cell HS3.out.hd 1).trans (show _ = some s.bv from rfl); have z0 := blk_frozen HS3.out.hd 0; have z1 := blk_frozen HS3.out.hd 1; clear hr hb)
  have hs2 := HB2.out.size
  have hlt := HLT.out
  have hfin := HS3.out.bytes HR3.out (by omega) (by omega) true
  have hne : ∀ k, k ≠ sb → ((w3.setCell ⟨sb, 0, none⟩ (.bool true)).setCell ⟨sb, 1, none⟩ (.slice A' bs.length c')).heap[k]? = w3.heap[k]? := fun k hk => (Below.heap_setCell _ ⟨sb, 1, none⟩ _ k hk).trans (Below.heap_setCell w3 ⟨sb, 0, none⟩ _ k hk)
  have hr := R_same (W1 := (w3.setCell ⟨sb, 0, none⟩ (.bool true)).setCell ⟨sb, 1, none⟩ (.slice A' bs.length c')) (Kd.R_lower HR3.out hs2) rfl (fun k hk => hne k (by have := ((Kd.R_bound HR3.out).1 k hk.symm).2.1; omega))
  have hbl := ((HB3.out.mono (show base ≤ w.heap.size by omega)).setCell (p := ⟨sb, 0, none⟩) hlt.2 (.bool true)).setCell (p := ⟨sb, 1, none⟩) hlt.2 (.slice A' bs.length c')
  have hsf := ((SF.of_below (sb := sb) HB3.out).trans (SF.set sb 0 w3 (.bool true))).trans (SF.set sb 1 _ (.slice A' bs.length c'))
  go_ret
  exact ⟨_, rfl, hfin, hr, hsf, hbl⟩
end Go.Proofs.YtphaaagcdjpceaaDoor
namespace Go.Proofs.YtphaaagcdjpceaaDoor
open Go.RowKit Go.Extern.Stop Go.Stop Go.Extern Go.Proofs.YtphaaagcdjpceaaDoorW.PrintWords Go.Proofs.YtphaaagcdjpceaaDoorW.PrintLast Go.Proofs.YtphaaagcdjpceaaDoorW.PrintMore
open Go.Maps (Keyed)
set_option linter.unusedVariables false
abbrev RM (W : World) (M n : Nat) (D : DataW Unit) : Prop := W.ownsMap Tryd.prog 3 (plainElem Tryd.prog 3) M n D
theorem plain_int {r : Int} (hr : (Lit.int .i64 r).wf = true) : plainElem (H := Unit) Tryd.prog 3 (.int .i64 r) = some (.lit (.int .i64 r), []) := by
  simp [plainElem, Tryd.underlying3, hr]
theorem RM.put {W : World} {M n : Nat} {D : DataW Unit} (h : RM W M n D) (hn : n < maxLen) (p : Int) (hp : (Lit.int .i64 p).wf = true) (r : Int) (hr : (Lit.int .i64 r).wf = true) : ∃ w', (Instr.mapUpdate 123 (.map (some M)) (.int .i64 p) (.int .i64 r)).run Tryd.prog W = .ok () w' ∧ RM w' M (n + 1) (D.put (.int .i64 p) (.lit (.int .i64 r))) ∧ W.grownBy w' (some M) :=
  World.ownsMap.update h key3 Tryd.underlying123 hn (Go.Maps.keyOf_int_mk Tryd.underlying3 hp) (plain_int hr)
theorem SS.kinds {W : World} {base sb : Nat} {sm : Int} {s : Sn} (h : SS W base sb sm s) (k : Nat) (hk : foot W sb s k) : (∃ es c, W.heap[k]? = some (Obj.map es c)) ∧ k = s.mb ∨ ∃ cs t fr, W.heap[k]? = some (Obj.cells cs t fr) ∧ t ≠ 40 := by
  obtain ⟨h1, ⟨g0, A, c, p1, p2⟩, ⟨es, clock, hm, r⟩, h4, h5⟩ := h
  rcases hk with rfl | rfl | hk | rfl | hk
  · exact .inr ⟨_, _, _, h1, by decide⟩
  · exact .inr ⟨_, _, _, p1, by decide⟩
  · rw [abk_of ((blk_cell p1 1).trans (show _ = some (Value.slice A s.ps.length c) from rfl))] at hk
    obtain ⟨cells, hc⟩ := Kd.R_typed p2 k hk.symm
    exact .inr ⟨_, _, _, hc, by decide⟩
  · exact .inl ⟨⟨_, _, hm⟩, rfl⟩
  · obtain ⟨cells, hc⟩ := Kd.R_typed h4 k hk.symm
    exact .inr ⟨_, _, _, hc, by decide⟩
theorem SS.only2 {W W' : World} {base sb : Nat} {sm : Int} {s : Sn} (h : SS W base sb sm s) {x : Nat} {a b : Int} (hx : Hn W x a b) (ho : ∀ k, k ≠ x → W'.heap[k]? = W.heap[k]?) : SS W' base sb sm s :=
  h.same (fun k hk => ho k (by
    have hx' : W.heap[x]? = some (Obj.cells #[.int .i64 a, .int .i64 b] 40 (0, 0)) := hx
    rintro rfl
    rcases h.kinds k hk with ⟨⟨es, c, e⟩, _⟩ | ⟨cs, t, fr, e, ht⟩
    · rw [e] at hx'; cases hx'
    · rw [e] at hx'; injection hx' with hx'; injection hx' with _ hx' _; exact ht hx'))
theorem SS.took {W W1 : World} {base sb : Nat} {sm : Int} {s : Sn} (h : SS W base sb sm s) {ps : List S108} {n : Int} (hp : PL W1 base s.sg sm ps n) (hf : Fq base s.sg W W1) : SS W1 base sb sm { s with ps := ps, n := n } := by
  have hmb : s.mb ≠ s.sg ∧ some s.mb ≠ abk W s.sg := by
    obtain ⟨h1, ⟨g0, A, c, p1, p2⟩, ⟨es, clock, hm, r⟩, h4, h5⟩ := h
    refine ⟨?_, ?_⟩
    · intro e; rw [e] at hm; rw [p1] at hm; cases hm
    · intro he
      rw [abk_of ((blk_cell p1 1).trans (show _ = some (Value.slice A s.ps.length c) from rfl))] at he
      obtain ⟨cells, hc⟩ := Kd.R_typed p2 s.mb he.symm
      rw [hc] at hm; cases hm
  obtain ⟨h1, _, ⟨es, clock, hm, r⟩, h4, h5⟩ := h
  refine ⟨(hf.fr.2.2 sb _ _ _ h1 (by decide)).trans h1, hp, ⟨es, clock, (hf.oth.1 s.mb (blk_lt hm) hmb.1 hmb.2).trans hm, r⟩, R_same h4 rfl (fun k hk => ?_), h5⟩
  obtain ⟨cells, hc⟩ := Kd.R_typed h4 k hk.symm
  exact hf.fr.2.2 k _ _ _ hc (by decide)
theorem SS.put {W wm : World} {base sb : Nat} {sm : Int} {s : Sn} (h : SS W base sb sm s) (hg : W.grownBy wm (some s.mb)) {cap2 : Nat} {D2 : DataW Unit} (hm : RM wm s.mb cap2 D2) : SS wm base sb sm { s with cap := cap2, D := D2 } := by
  have hne : ∀ k, foot W sb s k → k ≠ s.mb → wm.heap[k]? = W.heap[k]? := fun k hk hn => hg.block k (h.lt k hk).2 (by rintro e; injection e with e; exact hn e)
  have hm' := h.mp
  obtain ⟨a1, a2, a3, a4⟩ := h.apart
  obtain ⟨h1, ⟨g0, A, c, p1, p2⟩, ⟨es, clock, hm0, r⟩, h4, h5⟩ := h
  have ea := abk_of ((blk_cell p1 1).trans (show _ = some (Value.slice A s.ps.length c) from rfl))
  refine ⟨(hne sb (.inl rfl) a3).trans h1, PL.same ⟨g0, A, c, p1, p2⟩ (hne s.sg (.inr (.inl rfl)) ?_) (fun k hk => hne k (.inr (.inr (.inl hk))) ?_), hm, R_same h4 rfl (fun k hk => hne k (.inr (.inr (.inr (.inr hk)))) ?_), h5⟩
  · intro e; rw [e] at p1; rw [p1] at hm0; cases hm0
  · rintro rfl
    rw [ea] at hk
    obtain ⟨cells, hc⟩ := Kd.R_typed p2 _ hk.symm
    rw [hc] at hm0; cases hm0
  · rintro rfl
    obtain ⟨cells, hc⟩ := Kd.R_typed h4 _ hk.symm
    rw [hc] at hm0; cases hm0
structure Pv (W w' : World) (M n : Nat) (D : DataW Unit) : Prop where
  mp : RM w' M n D
  gr : W.grownBy w' (some M)
set_option maxRecDepth 100000 in
theorem upon_putr {o : Oper} {a : Act} {K : Act → World → Prop} {Q : Exit → Act → World → Prop} {W : World} {M n : Nat} {D : DataW Unit} {p r : Int} {f : Unit → World → Result Next} (h : RM W M n D) (hn : n < maxLen) (hp : (Lit.int .i64 p).wf = true) (hr : (Lit.int .i64 r).wf = true)
    (hk : ∀ w', Pv W w' M (n + 1) (D.put (.int .i64 p) (.lit (.int .i64 r))) → Oper.upon Tryd.prog o a K Q ((Result.ok () w').andThen f)) :
    Oper.upon Tryd.prog o a K Q ((Sem.run Tryd.prog (Instr.mapUpdate 123 (.map (some M)) (.int .i64 p) (.int .i64 r)) W).andThen f) := by
  obtain ⟨w', hr, h1, h2⟩ := h.put hn p hp r hr
  rw [hr]
  exact hk w' ⟨h1, h2⟩
theorem Pv.keeps {W w' : World} {M n : Nat} {D : DataW Unit} (h : Pv W w' M n D) {k : Nat} {cs : Array Value} {t : Nat} {fr : Nat × Nat} (hk : W.heap[k]? = some (Obj.cells cs t fr)) {D0 : DataW Unit} {n0 : Nat} (hm : RM W M n0 D0) : w'.heap[k]? = some (Obj.cells cs t fr) := by
  have hne : k ≠ M := by
    rintro rfl
    obtain ⟨es, clock, hm1, _⟩ := hm
    rw [hm1] at hk; cases hk
  exact (h.gr.block k (blk_lt hk) (by rintro e; injection e with e; exact hne e)).trans hk
theorem two40 (w : World) (a b c d : Value) : Below w.heap.size w ((w.alloc (.cells #[a, b] 40)).alloc (.cells #[c, d] 40)) ∧ ((w.alloc (.cells #[a, b] 40)).alloc (.cells #[c, d] 40)).heap[w.heap.size]? = some (.cells #[a, b] 40 (0, 0)) ∧ ((w.alloc (.cells #[a, b] 40)).alloc (.cells #[c, d] 40)).heap[w.heap.size + 1]? = some (.cells #[c, d] 40 (0, 0)) := by
  have h1 := heap_alloc_new w (.cells #[a, b] 40)
  have h2 := heap_alloc_new (w.alloc (.cells #[a, b] 40)) (.cells #[c, d] 40)
  rw [World.size_alloc] at h2
  exact ⟨below_alloc (below_alloc (Below.refl _ _) _) _, (Below.heap_alloc _ _ _ (blk_lt h1)).trans h1, h2⟩
theorem pair_told {base g M x : Nat} {w wc : World} {u v : Value} (f : DF g M w wc) (b : Below base w wc) (hx : w.heap.size ≤ x) (hg : g < w.heap.size) (hb : base ≤ w.heap.size) : DF g M w ((wc.setCell ⟨x, 0, none⟩ u).setCell ⟨x, 1, none⟩ v) ∧ Below base w ((wc.setCell ⟨x, 0, none⟩ u).setCell ⟨x, 1, none⟩ v) := by
  have ho : ∀ k, k ≠ x → ((wc.setCell ⟨x, 0, none⟩ u).setCell ⟨x, 1, none⟩ v).heap[k]? = wc.heap[k]? := fun k hk => (Below.heap_setCell _ ⟨x, 1, none⟩ _ k hk).trans (Below.heap_setCell wc ⟨x, 0, none⟩ _ k hk)
  refine ⟨⟨by simpa [World.setCell] using f.size, fun k hk k1 k2 k3 => (ho k (by omega)).trans (f.block k hk k1 k2 k3), ?_⟩, (b.setCell (p := ⟨x, 0, none⟩) (Nat.le_trans hb hx) u).setCell (p := ⟨x, 1, none⟩) (Nat.le_trans hb hx) v⟩
  rw [abk_same (ho g (by omega))]
  exact f.row
theorem SS.sgmb {W : World} {base sb : Nat} {sm : Int} {s : Sn} (h : SS W base sb sm s) : s.sg ≠ s.mb := by
  obtain ⟨h1, ⟨g0, A, c, p1, p2⟩, ⟨es, clock, hm, r⟩, h4, h5⟩ := h
  intro e; rw [e] at p1; rw [p1] at hm; cases hm
set_option maxHeartbeats 8000000 in
set_option maxRecDepth 100000 in
theorem keep_ok (d base pg M sb : Nat) (most n : Int) (ps : List S108) (snaps : Int) (cap : Nat) (D : DataW Unit) (p t : Int) (sm : Int) (s : Sn) (r : Int) (i : Nat) (w : World) (h : DK w base d pg M most n ps snaps cap D) (hp : (Lit.int .i64 p).wf = true) (hh : hasB ps p t = true) (hs : D.atKey (.int .i64 p) .nil = .lit (.int .i64 (sb : Int)))
    (hS : SS w base sb sm s) (hcap : s.cap < 1000000) (hr : (Lit.int .i64 r).wf = true) (hi : i ≤ s.ps.length) (hf : ∀ j, j < i → (plc s.ps j).f1 = true) (hf2 : i < s.ps.length → (plc s.ps i).f1 = false) (hm : (i : Int) ≠ sm) (hl : s.ps.length ≤ 1000) (ht0 : 0 ≤ turnOf s.ps i) (ht1 : turnOf s.ps i ≤ 1000000) (hn0 : -1000000 ≤ s.n) (hn1 : s.n ≤ 1000000) :
    Calls Tryd.prog 42 #[.pointer (some ⟨d, 0, none⟩), .agg #[.int .i64 p, .int .i64 t], .int .i64 r] w fun e w' => e = .returned (.tuple #[.agg #[.int .i64 (i : Int), .int .i64 (turnOf s.ps i)], .nilIface]) ∧ SS w' base sb sm { s with ps := tookL s.ps i, n := s.n + 1, cap := s.cap + 1, D := s.D.put (.int .i64 (i : Int)) (.lit (.int .i64 r)) } ∧ DF s.sg s.mb w w' ∧ Below base w w' := by
  obtain ⟨B1, hN, hR⟩ := two40 w (.int .i64 p) (.int .i64 t) (.int .i64 0) (.int .i64 0)
  have HN := Lib.hid (show Hn ((w.alloc (.cells #[.int .i64 p, .int .i64 t] 40)).alloc (.cells #[.int .i64 0, .int .i64 0] 40)) w.heap.size p t from hN)
  have HR := Lib.hid (show Hn ((w.alloc (.cells #[.int .i64 p, .int .i64 t] 40)).alloc (.cells #[.int .i64 0, .int .i64 0] 40)) (w.heap.size + 1) 0 0 from hR)
  have HD := Lib.hid (h.below B1)
  have HS := Lib.hid (hS.below B1)
  have HB := Lib.hid B1
  have HA := Lib.hid (And.intro hp (And.intro hh (And.intro hs (And.intro hcap hr))))
  have HT := Lib.hid (And.intro hi (And.intro hf (And.intro hf2 (And.intro hm (And.intro hl (And.intro ht0 (And.intro ht1 (And.intro hn0 hn1))))))))
  have HLT := Lib.hid (And.intro (show sb < w.heap.size from blk_lt hS.hd) (And.intro hS.lo.1 (And.intro hS.lo.2 hS.pl.glt)))
  clear B1 hN hR h hp hh hs hS hcap hr hi hf hf2 hm hl ht0 ht1 hn0 hn1
  go_enter Tryd.func42, Tryd.ntmps42
  go_upto_region 1 with (fail)
  generalize (w.alloc (.cells #[.int .i64 p, .int .i64 t] 40)).alloc (.cells #[.int .i64 0, .int .i64 0] 40) = w1 at *
  have q0 := (blk_cell HN.out 0).trans (show _ = some (Value.int .i64 p) from rfl)
  have q1 := (blk_cell HN.out 1).trans (show _ = some (Value.int .i64 t) from rfl)
  go_upto_region 4 with (go_at_call 61; (with_reducible refine (find_yes d base pg M sb most n ps snaps cap D p t _ HD.out HA.out.1 HA.out.2.1 HA.out.2.2.1).mono ?_); rintro e w2 ⟨rfl, hb⟩; have HB2 := Lib.hid (below_step HB.out hb); have HS2 := Lib.hid (HS.out.below hb); have HR2 := Lib.hid (show Hn w2 (w.heap.size + 1) 0 0 from blk_below HR.out hb); clear hb)
  clear q0 q1
  have s2 := (blk_cell HS2.out.hd 2).trans (show _ = some (Value.pointer (some ⟨s.sg, 0, none⟩)) from rfl)
  obtain ⟨hi, hf, hf2, hm, hl, ht0, ht1, hn0, hn1⟩ := HT.out
  go_upto_region 5 with (go_at_call 16; (with_reducible refine (take_oq s.sg base sm s.n s.ps i _ HS2.out.pl hi hf hf2 hm hl ht0 ht1 hn0 hn1).mono ?_); rintro e w3 ⟨rfl, h3, f3⟩; have HS3 := Lib.hid (HS2.out.took h3 f3); have HR3 := Lib.hid (HR2.out.fr f3.fr); have HF3 := Lib.hid f3; clear h3 f3)
  obtain ⟨tn, htn⟩ : ∃ tn, turnOf s.ps i = tn := ⟨_, rfl⟩
  have HTN := Lib.hid htn
  rw [htn]
  clear hi hf hf2 hm hl ht0 ht1 hn0 hn1 htn s2
  have B4 := below_alloc (Below.refl w3.heap.size w3) (.cells #[.int .i64 (i : Int), .int .i64 tn] 40)
  have HX := Lib.hid (show Hn (w3.alloc (.cells #[.int .i64 (i : Int), .int .i64 tn] 40)) w3.heap.size (i : Int) tn from heap_alloc_new w3 _)
  have HS4 := Lib.hid (HS3.out.below B4)
  have HR4 := Lib.hid (show Hn (w3.alloc (.cells #[.int .i64 (i : Int), .int .i64 tn] 40)) (w.heap.size + 1) 0 0 from blk_below HR3.out B4)
  have HB4 := Lib.hid B4
  clear B4
  go_upto_region 7 with (fail)
  generalize w3.alloc (.cells #[.int .i64 (i : Int), .int .i64 tn] 40) = w4 at *
  have s3 := (blk_cell HS4.out.hd 3).trans (show _ = some (Value.map (some s.mb)) from rfl)
  have k0 := (blk_cell HX.out 0).trans (show _ = some (Value.int .i64 (i : Int)) from rfl)
  have HWF := Lib.hid (show (Lit.int .i64 (i : Int)).wf = true from wf_i64 (by omega) (by have := HT.out.1; have := HT.out.2.2.2.2.1; omega))
  have HCP := Lib.hid (show s.cap < maxLen by show s.cap < 9223372036854775807; have := HA.out.2.2.2.1; omega)
  go_cut [10] (fun v10 wc => v10 = .pointer (some ⟨w3.heap.size, 0, none⟩) ∧ Hid (Pv w4 wc s.mb (s.cap + 1) (s.D.put (.int .i64 (i : Int)) (.lit (.int .i64 r)))))
  case first =>
    go_region_held3 (fun w' => w'.cell? ⟨sb, 3, none⟩ = some (.map (some s.mb)) ∧ w'.cell? ⟨w3.heap.size, 0, none⟩ = some (.int .i64 (i : Int))) (first | go_keep | exact ⟨s3, k0⟩ | exact ⟨(blk_cell (HPV.out.keeps HS4.out.hd HS4.out.mp) 3).trans rfl, (blk_cell (HPV.out.keeps HX.out HS4.out.mp) 0).trans rfl⟩) ((refine upon_putr (show RM w4.drew s.mb s.cap s.D from HS4.out.mp) HCP.out HWF.out HA.out.2.2.2.2 ?_; intro wm hm1; have HPV := Lib.hid (show Pv w4 wm s.mb (s.cap + 1) (s.D.put (.int .i64 (i : Int)) (.lit (.int .i64 r))) from ⟨hm1.mp, ⟨hm1.gr.os, hm1.gr.tape, hm1.gr.output, hm1.gr.size, hm1.gr.block⟩⟩); clear hm1; go_simp))
    all_goals (
      go_wp2
      go_meet
      case rel => exact ⟨rfl, HPV⟩)
  case rest =>
    obtain ⟨rfl, HPV⟩ := hcut
    have HRc := Lib.hid (show Hn wc (w.heap.size + 1) 0 0 from HPV.out.keeps HR4.out HS4.out.mp)
    have HXc := Lib.hid (show Hn wc w3.heap.size (i : Int) tn from HPV.out.keeps HX.out HS4.out.mp)
    have HS5 := Lib.hid (HS4.out.put HPV.out.gr HPV.out.mp)
    have hx0 := (blk_cell HXc.out 0).trans (show _ = some (Value.int .i64 (i : Int)) from rfl)
    have hx1 := (blk_cell HXc.out 1).trans (show _ = some (Value.int .i64 tn) from rfl)
    have hr0 := (blk_cell HRc.out 0).trans (show _ = some (Value.int .i64 0) from rfl)
    have hr1 := (blk_cell HRc.out 1).trans (show _ = some (Value.int .i64 0) from rfl)
    have hz0 := blk_frozen HRc.out 0
    have hz1 := blk_frozen HRc.out 1
    have hlt := HLT.out
    have hbw : base ≤ w.heap.size := by omega
    have g2 : s.sg < w2.heap.size := Nat.lt_of_lt_of_le hlt.2.2.2 HB2.out.size
    have g3 : s.sg < w3.heap.size := Nat.lt_of_lt_of_le g2 HF3.out.fr.1.size
    have g4 : s.sg < w4.heap.size := Nat.lt_of_lt_of_le g3 HB4.out.size
    have f4 := ((DF.of_below (M := s.mb) HB2.out hlt.2.2.2).trans (DF.of_oth HF3.out.oth HF3.out.fr.1.size)).trans (DF.of_below HB4.out g3)
    have b4 := ((HB2.out.mono hbw).trans HF3.out.fr.1).trans (HB4.out.mono (Nat.le_trans (Nat.le_trans hbw HB2.out.size) HF3.out.fr.1.size))
    have fc := f4.trans (DF.of_put HPV.out.gr g4 HS4.out.sgmb)
    have bc := Below.grown b4 HPV.out.gr (Nat.le_trans hbw f4.size) (fun k hk => by injection hk with hk; subst hk; exact hlt.2.2.1)
    have HFIN := Lib.hid (pair_told (x := w.heap.size + 1) (u := .int .i64 (i : Int)) (v := .int .i64 tn) fc bc (by omega) hlt.2.2.2 hbw)
    have HSF := Lib.hid (HS5.out.only2 (W' := (wc.setCell ⟨w.heap.size + 1, 0, none⟩ (.int .i64 (i : Int))).setCell ⟨w.heap.size + 1, 1, none⟩ (.int .i64 tn)) HRc.out (fun k hk => (Below.heap_setCell _ ⟨w.heap.size + 1, 1, none⟩ _ k hk).trans (Below.heap_setCell wc ⟨w.heap.size + 1, 0, none⟩ _ k hk)))
    have hB := blk_set (blk_set HRc.out 0 (.int .i64 (i : Int))) 1 (.int .i64 tn)
    have r0 := (blk_cell hB 0).trans (show _ = some (Value.int .i64 (i : Int)) from rfl)
    have r1 := (blk_cell hB 1).trans (show _ = some (Value.int .i64 tn) from rfl)
    clear hB hlt hbw g2 g3 g4 f4 b4 fc bc
    go_wp2_with (fail)
    exact bodyPost_ret (v := .tuple #[.agg #[.int .i64 (i : Int), .int .i64 tn], .nilIface]) (by simp [results, Tryd.results42, go_sem, r0, r1]) rfl ⟨by rw [HTN.out], HSF.out, HFIN.out.1, HFIN.out.2⟩
end Go.Proofs.YtphaaagcdjpceaaDoor
namespace Go.Proofs.YtphaaagcdjpceaaDoor
open Go.RowKit Go.Extern.Stop Go.Stop Go.Extern Go.Proofs.YtphaaagcdjpceaaDoorW.PrintWords Go.Proofs.YtphaaagcdjpceaaDoorW.PrintLast Go.Proofs.YtphaaagcdjpceaaDoorW.PrintMore
open Go.Maps (Keyed)
set_option linter.unusedVariables false
set_option maxHeartbeats 4000000 in
set_option maxRecDepth 100000 in
theorem waits_yes (d base pg M sb : Nat) (most n : Int) (ps : List S108) (snaps : Int) (cap : Nat) (D : DataW Unit) (p t : Int) (sm : Int) (s : Sn) (w : World) (h : DK w base d pg M most n ps snaps cap D) (hp : (Lit.int .i64 p).wf = true) (hh : hasB ps p t = true) (hs : D.atKey (.int .i64 p) .nil = .lit (.int .i64 (sb : Int)))
    (hS : SS w base sb sm s) (hw : s.wt = true) (hl : s.bs.length ≤ 100000) :
    Calls Tryd.prog 45 #[.pointer (some ⟨d, 0, none⟩), .agg #[.int .i64 p, .int .i64 t]] w fun e w' => ∃ v', e = .returned (.tuple #[v', .bool true]) ∧ Kd.R (Kd.int .u8) 5 w' w.heap.size (fun _ => True) v' s.bs ∧ Below w.heap.size w w' := by
  have B1 := below_alloc (Below.refl w.heap.size w) (.cells #[.int .i64 p, .int .i64 t] 40)
  have HN := Lib.hid (show Hn (w.alloc (.cells #[.int .i64 p, .int .i64 t] 40)) w.heap.size p t from heap_alloc_new w _)
  have HD := Lib.hid (h.below B1)
  have HS := Lib.hid (hS.below B1)
  have HB := Lib.hid B1
  have HA := Lib.hid (And.intro hp (And.intro hh (And.intro hs (And.intro hw hl))))
  clear B1 h hp hh hs hS hw hl
  go_enter Tryd.func45, Tryd.ntmps45
  go_upto_region 1 with (fail)
  generalize w.alloc (.cells #[.int .i64 p, .int .i64 t] 40) = w1 at *
  have q0 := (blk_cell HN.out 0).trans (show _ = some (Value.int .i64 p) from rfl)
  have q1 := (blk_cell HN.out 1).trans (show _ = some (Value.int .i64 t) from rfl)
  go_upto_region 2 with (go_at_call 61; (with_reducible refine (find_yes d base pg M sb most n ps snaps cap D p t _ HD.out HA.out.1 HA.out.2.1 HA.out.2.2.1).mono ?_); rintro e w2 ⟨rfl, hb⟩; have HB2 := Lib.hid (below_step HB.out hb); have HS2 := Lib.hid (HS.out.below hb); clear hb)
  clear q0 q1
  have HD2 := Lib.hid HS2.out.hd
  have s0 := (blk_cell HD2.out 0).trans (show _ = some (Value.bool s.wt) from rfl)
  rw [HA.out.2.2.2.1] at s0
  obtain ⟨A, c, hv⟩ := Kd.R_slice HS2.out.by_
  have s1 := (blk_cell HD2.out 1).trans (show _ = some s.bv from rfl)
  rw [hv] at s1
  have HC := Lib.hid (Kd.R_reads' (hv ▸ HS2.out.by_)).2.2
  go_wp2_with (go_at_call 63; (with_reducible refine (clone_C A c s.bs _ HC.out HA.out.2.2.2.2).mono ?_); rintro e w3 ⟨v', rfl, hr, hb⟩; have HB3 := Lib.hid (below_step HB2.out hb); have HR3 := Lib.hid (Kd.R_lower hr (HB2.out.size)); clear hr hb)
  go_ret2
  exact ⟨_, rfl, HR3.out, HB3.out⟩
set_option maxHeartbeats 4000000 in
set_option maxRecDepth 100000 in
theorem waits_none (d base pg M sb : Nat) (most n : Int) (ps : List S108) (snaps : Int) (cap : Nat) (D : DataW Unit) (p t : Int) (sm : Int) (s : Sn) (w : World) (h : DK w base d pg M most n ps snaps cap D) (hp : (Lit.int .i64 p).wf = true) (hh : hasB ps p t = true) (hs : D.atKey (.int .i64 p) .nil = .lit (.int .i64 (sb : Int)))
    (hS : SS w base sb sm s) (hw : s.wt = false) :
    Calls Tryd.prog 45 #[.pointer (some ⟨d, 0, none⟩), .agg #[.int .i64 p, .int .i64 t]] w fun e w' => e = .returned (.tuple #[.slice none 0 0, .bool false]) ∧ Below w.heap.size w w' := by
  have B1 := below_alloc (Below.refl w.heap.size w) (.cells #[.int .i64 p, .int .i64 t] 40)
  have HN := Lib.hid (show Hn (w.alloc (.cells #[.int .i64 p, .int .i64 t] 40)) w.heap.size p t from heap_alloc_new w _)
  have HD := Lib.hid (h.below B1)
  have HS := Lib.hid (hS.below B1)
  have HB := Lib.hid B1
  have HA := Lib.hid (And.intro hp (And.intro hh (And.intro hs hw)))
  clear B1 h hp hh hs hS hw
  go_enter Tryd.func45, Tryd.ntmps45
  go_upto_region 1 with (fail)
  generalize w.alloc (.cells #[.int .i64 p, .int .i64 t] 40) = w1 at *
  have q0 := (blk_cell HN.out 0).trans (show _ = some (Value.int .i64 p) from rfl)
  have q1 := (blk_cell HN.out 1).trans (show _ = some (Value.int .i64 t) from rfl)
  go_upto_region 2 with (go_at_call 61; (with_reducible refine (find_yes d base pg M sb most n ps snaps cap D p t _ HD.out HA.out.1 HA.out.2.1 HA.out.2.2.1).mono ?_); rintro e w2 ⟨rfl, hb⟩; have HB2 := Lib.hid (below_step HB.out hb); have HS2 := Lib.hid (HS.out.below hb); clear hb)
  clear q0 q1
  have s0 := (blk_cell HS2.out.hd 0).trans (show _ = some (Value.bool s.wt) from rfl)
  rw [HA.out.2.2.2] at s0
  go_wp2_with (fail)
  go_ret2
  exact ⟨rfl, HB2.out⟩
end Go.Proofs.YtphaaagcdjpceaaDoor
namespace Go.Proofs.YtphaaagcdjpceaaDoor
open Go.RowKit Go.Extern.Stop Go.Stop Go.Extern Go.Proofs.YtphaaagcdjpceaaDoorW.PrintWords Go.Proofs.YtphaaagcdjpceaaDoorW.PrintLast Go.Proofs.YtphaaagcdjpceaaDoorW.PrintMore
open Go.Maps (Keyed)
set_option linter.unusedVariables false
set_option maxHeartbeats 4000000 in
set_option maxRecDepth 100000 in
theorem waits_no (d base pg M : Nat) (most n : Int) (ps : List S108) (snaps : Int) (cap : Nat) (D : DataW Unit) (p t : Int) (w : World) (hG : Good w) (h : DK w base d pg M most n ps snaps cap D) (hp : -9223372036854775808 ≤ p ∧ p ≤ 9223372036854775807) (hh : hasB ps p t = false) :
    Calls Tryd.prog 45 #[.pointer (some ⟨d, 0, none⟩), .agg #[.int .i64 p, .int .i64 t]] w fun e w' => e = .returned (.tuple #[.slice none 0 0, .bool false]) ∧ Below w.heap.size w w' := by
  have B1 := below_alloc (Below.refl w.heap.size w) (.cells #[.int .i64 p, .int .i64 t] 40)
  have HN := Lib.hid (show Hn (w.alloc (.cells #[.int .i64 p, .int .i64 t] 40)) w.heap.size p t from heap_alloc_new w _)
  have HD := Lib.hid (h.below B1)
  have HG := Lib.hid (hG.below B1)
  have HB := Lib.hid B1
  have HA := Lib.hid (And.intro hp hh)
  clear B1 h hp hh hG
  go_enter Tryd.func45, Tryd.ntmps45
  go_upto_region 1 with (fail)
  generalize w.alloc (.cells #[.int .i64 p, .int .i64 t] 40) = w1 at *
  have q0 := (blk_cell HN.out 0).trans (show _ = some (Value.int .i64 p) from rfl)
  have q1 := (blk_cell HN.out 1).trans (show _ = some (Value.int .i64 t) from rfl)
  go_wp2_with (go_at_call 61; (with_reducible refine (find_no d base pg M most n ps snaps cap D p t _ HG.out HD.out HA.out.1 HA.out.2).mono ?_); rintro e w2 ⟨k, rfl, hj, hb⟩; have HB2 := Lib.hid (below_step HB.out hb); clear hb hj)
  go_ret2
  exact ⟨rfl, HB2.out⟩
set_option maxHeartbeats 4000000 in
set_option maxRecDepth 100000 in
theorem send_no (d base pg M : Nat) (most n : Int) (ps : List S108) (snaps : Int) (cap : Nat) (D : DataW Unit) (p t : Int) (w : World) (hG : Good w) (h : DK w base d pg M most n ps snaps cap D) (hp : -9223372036854775808 ≤ p ∧ p ≤ 9223372036854775807) (hh : hasB ps p t = false) (A : Option Addr) (m c : Nat) :
    Calls Tryd.prog 41 #[.pointer (some ⟨d, 0, none⟩), .agg #[.int .i64 p, .int .i64 t], .slice A m c] w fun e w' => ∃ k, e = .returned (.iface 179 (.pointer (some ⟨k, 0, none⟩))) ∧ Joined w' k 3 ∧ Below w.heap.size w w' := by
  have B1 := below_alloc (Below.refl w.heap.size w) (.cells #[.int .i64 p, .int .i64 t] 40)
  have HN := Lib.hid (show Hn (w.alloc (.cells #[.int .i64 p, .int .i64 t] 40)) w.heap.size p t from heap_alloc_new w _)
  have HD := Lib.hid (h.below B1)
  have HG := Lib.hid (hG.below B1)
  have HB := Lib.hid B1
  have HA := Lib.hid (And.intro hp hh)
  clear B1 h hp hh hG
  go_enter Tryd.func41, Tryd.ntmps41
  go_upto_region 1 with (fail)
  generalize w.alloc (.cells #[.int .i64 p, .int .i64 t] 40) = w1 at *
  have q0 := (blk_cell HN.out 0).trans (show _ = some (Value.int .i64 p) from rfl)
  have q1 := (blk_cell HN.out 1).trans (show _ = some (Value.int .i64 t) from rfl)
  go_wp2_with (go_at_call 61; (with_reducible refine (find_no d base pg M most n ps snaps cap D p t _ HG.out HD.out HA.out.1 HA.out.2).mono ?_); rintro e w2 ⟨k, rfl, hj, hb⟩; have HJ := Lib.hid hj; have HB2 := Lib.hid (below_step HB.out hb); clear hb hj)
  go_ret
  exact ⟨_, rfl, HJ.out, HB2.out⟩
set_option maxRecDepth 100000 in
theorem RM.look {W : World} {M n : Nat} {D : DataW Unit} (h : RM W M n D) (p : Int) (hp : (Lit.int .i64 p).wf = true) {r : Int} (hb : D.atKey (.int .i64 p) (.lit (.int .i64 0)) = .lit (.int .i64 r)) : ∀ m, (Instr.lookup 123 (.map (some M)) (.int .i64 p) false).run Tryd.prog (W.drewN m) = .ok (.int .i64 r) (W.drewN m) := by
  intro m
  have h' : RM (W.drewN m) M n D := h
  obtain ⟨v, ps, hr, hv⟩ := World.ownsMap.lookup h' key3 Tryd.underlying123 (zero3 _) (show plainElem (H := Unit) Tryd.prog 3 (.int .i64 0) = some (.lit (.int .i64 0), []) from plain_int (by decide)) (key := .int .i64 p) (kl := .int .i64 p) (Go.Maps.keyOf_int_mk Tryd.underlying3 hp)
  rw [hb] at hv
  rw [hr]
  have : v = .int .i64 r := by
    unfold plainElem at hv
    rw [Tryd.underlying3] at hv
    cases v <;> simp at hv
    obtain ⟨⟨rfl, _⟩, e, _⟩ := hv
    rw [e]
  rw [this]
set_option maxHeartbeats 8000000 in
set_option maxRecDepth 100000 in
theorem find_ok (d base pg M sb : Nat) (most n : Int) (ps : List S108) (snaps : Int) (cap : Nat) (D : DataW Unit) (p t : Int) (sm : Int) (s : Sn) (p2 t2 r : Int) (w : World) (h : DK w base d pg M most n ps snaps cap D) (hp : (Lit.int .i64 p).wf = true) (hh : hasB ps p t = true) (hs : D.atKey (.int .i64 p) .nil = .lit (.int .i64 (sb : Int)))
    (hS : SS w base sb sm s) (hp2 : (Lit.int .i64 p2).wf = true) (hh2 : hasB s.ps p2 t2 = true) (hr : s.D.atKey (.int .i64 p2) (.lit (.int .i64 0)) = .lit (.int .i64 r)) :
    Calls Tryd.prog 47 #[.pointer (some ⟨d, 0, none⟩), .agg #[.int .i64 p, .int .i64 t], .agg #[.int .i64 p2, .int .i64 t2]] w fun e w' => e = .returned (.tuple #[.int .i64 r, .nilIface]) ∧ Below w.heap.size w w' := by
  obtain ⟨B1, hN, hR⟩ := two40 w (.int .i64 p) (.int .i64 t) (.int .i64 p2) (.int .i64 t2)
  have HN := Lib.hid (show Hn ((w.alloc (.cells #[.int .i64 p, .int .i64 t] 40)).alloc (.cells #[.int .i64 p2, .int .i64 t2] 40)) w.heap.size p t from hN)
  have HR := Lib.hid (show Hn ((w.alloc (.cells #[.int .i64 p, .int .i64 t] 40)).alloc (.cells #[.int .i64 p2, .int .i64 t2] 40)) (w.heap.size + 1) p2 t2 from hR)
  have HD := Lib.hid (h.below B1)
  have HS := Lib.hid (hS.below B1)
  have HB := Lib.hid B1
  have HA := Lib.hid (And.intro hp (And.intro hh (And.intro hs (And.intro hp2 (And.intro hh2 hr)))))
  clear B1 hN hR h hp hh hs hS hp2 hh2 hr
  go_enter Tryd.func47, Tryd.ntmps47
  go_upto_region 1 with (fail)
  generalize (w.alloc (.cells #[.int .i64 p, .int .i64 t] 40)).alloc (.cells #[.int .i64 p2, .int .i64 t2] 40) = w1 at *
  have q0 := (blk_cell HN.out 0).trans (show _ = some (Value.int .i64 p) from rfl)
  have q1 := (blk_cell HN.out 1).trans (show _ = some (Value.int .i64 t) from rfl)
  go_upto_region 4 with (go_at_call 61; (with_reducible refine (find_yes d base pg M sb most n ps snaps cap D p t _ HD.out HA.out.1 HA.out.2.1 HA.out.2.2.1).mono ?_); rintro e w2 ⟨rfl, hb⟩; have HB2 := Lib.hid (below_step HB.out hb); have HS2 := Lib.hid (HS.out.below hb); have HR2 := Lib.hid (show Hn w2 (w.heap.size + 1) p2 t2 from blk_below HR.out hb); clear hb)
  clear q0 q1
  have s2 := (blk_cell HS2.out.hd 2).trans (show _ = some (Value.pointer (some ⟨s.sg, 0, none⟩)) from rfl)
  have k0 := (blk_cell HR2.out 0).trans (show _ = some (Value.int .i64 p2) from rfl)
  have k1 := (blk_cell HR2.out 1).trans (show _ = some (Value.int .i64 t2) from rfl)
  have HC : Hid (∀ W', Below w2.heap.size w2 W' → Calls Tryd.prog 22 #[.pointer (some ⟨s.sg, 0, none⟩), .agg #[.int .i64 p2, .int .i64 t2]] W' fun e w' => e = .returned (.bool true) ∧ Below W'.heap.size W' w') := fun W' hb' => by
    refine (has_calls s.sg base sm s.n s.ps p2 t2 W' (HS2.out.pl.below hb')).mono ?_
    rintro e w' ⟨rfl, hb2⟩
    exact ⟨by rw [HA.out.2.2.2.2.1], hb2⟩
  go_cut [20] (fun v20 wc => v20 = .bool false ∧ Hid (Below w2.heap.size w2 wc))
  case first =>
    have HK1 := Lib.hid (Below.refl w2.heap.size w2)
    go_region_held3 (fun w' => w'.cell? ⟨sb, 2, none⟩ = some (.pointer (some ⟨s.sg, 0, none⟩)) ∧ w'.cell? ⟨w.heap.size + 1, 0, none⟩ = some (.int .i64 p2) ∧ w'.cell? ⟨w.heap.size + 1, 1, none⟩ = some (.int .i64 t2)) (first | go_keep | exact ⟨s2, k0, k1⟩ | exact ⟨(HK1.out.cell (cell_lt s2)).trans s2, (HK1.out.cell (cell_lt k0)).trans k0, (HK1.out.cell (cell_lt k1)).trans k1⟩) (first | (go_at_call 22; (with_reducible refine (HC.out _ (by first | exact HK1.out | exact below_drew1 HK1.out)).mono ?_); rintro e wx ⟨rfl, hb⟩; first | (have HK1 := Lib.hid (below_step HK1.out hb)) | (have HK1 := Lib.hid (show Below w2.heap.size w2 wx from below_step (below_drew1 HK1.out) hb))))
    all_goals (
      go_wp2
      go_meet
      case rel => exact ⟨rfl, HK1⟩)
  case rest =>
    obtain ⟨rfl, HBc⟩ := hcut
    clear HC s2 k0 k1
    have HS3 := Lib.hid (HS2.out.below HBc.out)
    have HR3 := Lib.hid (show Hn _ (w.heap.size + 1) p2 t2 from blk_below HR2.out HBc.out)
    have HB3 := Lib.hid (below_step HB2.out HBc.out)
    have s3 := (blk_cell HS3.out.hd 3).trans (show _ = some (Value.map (some s.mb)) from rfl)
    have k0 := (blk_cell HR3.out 0).trans (show _ = some (Value.int .i64 p2) from rfl)
    have hlk := RM.look (show RM wc s.mb s.cap s.D from HS3.out.mp) p2 HA.out.2.2.2.1 HA.out.2.2.2.2.2
    go_wp2_with (fail)
    go_quiet (fail)
    have D4 := Lib.hid (pw_below_drewN HB3.out nq)
    go_wp2
    go_ret2
    exact ⟨rfl, D4.out⟩
end Go.Proofs.YtphaaagcdjpceaaDoor
namespace Go.Proofs.YtphaaagcdjpceaaDoor
open Go.RowKit Go.Maps Go.Sort Go.Shelf Go.Proofs Go.Proofs.YtphaaagcdjpceaaDoorW.PrintWords Go.Proofs.YtphaaagcdjpceaaDoorW.PrintLast Go.Proofs.YtphaaagcdjpceaaDoorW.PrintMore
set_option linter.unusedVariables false
theorem sortsA (m : Nat) : AnyZI.SortsIn Tryd.prog Tryd.sortedA_ren Fence.wide m :=
  ⟨fun blk off cap ss W hH hblk hsz => callsIn_wide.2 (AnyM.slices_Sort_int Tryd.sortA blk off cap ss W hH hblk hsz),
   fun p cap W => callsIn_wide.2 (AnyM.slices_Sort_int_none Tryd.sortA p cap W)⟩
theorem keys_calls (mb : Option Nat) (w : World) : Calls Tryd.prog 65 #[.map mb] w fun e w' => e = .returned (.func (.func 76) #[] #[.pointer (some ⟨w.heap.size, 0, none⟩)]) ∧ w' = w.alloc (.cells #[.map mb] 123) :=
  (callsIn_wide (n := 5)).1 (AnyZI.keys_in Tryd.keysA Fence.wide 5 trivial rfl mb w)
set_option maxHeartbeats 1000000 in
theorem sorted_calls (b nn : Nat) (D0 : DataW Unit) (w : World) (hown : RM w b nn D0) (hmax : Maps.size D0 ≤ 1000000) :
    Calls Tryd.prog 64 #[.func (.func 76) #[] #[.pointer (some ⟨w.heap.size, 0, none⟩)]] (w.alloc (.cells #[.map (some b)] 123)) fun e w' => ∃ (v : Value) (ss : List Int), e = .returned v ∧ ss.Perm (intKeys D0) ∧
      Kd.R (Kd.int .i64) 3 w' (w.heap.size + 1) (fun _ => True) v (ss.mergeSort (fun x y => decide (x ≤ y))) ∧ RowKit.Below (w.heap.size + 1) (w.alloc (.cells #[.map (some b)] 123)) w' := by
  have hbl := hown.lt
  have hseq : SeqGives Fence.wide 2 Tryd.prog 76 #[.pointer (some ⟨w.heap.size, 0, none⟩)] encZ (fun ss => ss.Perm (intKeys D0)) (Maps.size D0) (w.alloc (.cells #[.map (some b)] 123)) :=
    AnyZI.keys_gives (ρ := Tryd.keysA_ren) { Tryd.keysA with } Fence.wide _ trivial rfl (by omega) w.heap.size b nn D0 _ (by simp) (by simp) (by
      obtain ⟨es, clock, hb, Ft, hs, hD⟩ := hown
      exact ⟨es, clock, (Below.heap_alloc _ _ b hbl).trans hb, Ft, hs, hD⟩)
  have cS := AnyZI.sorted_in Tryd.sortedA Fence.wide 5 trivial trivial trivial trivial rfl (by omega) (sortsA _) (enters_of Tryd.func66 (by kernel_rfl) rfl) 76 #[.pointer (some ⟨w.heap.size, 0, none⟩)] trivial (enters_of Tryd.func76 (by kernel_rfl) rfl) _ _ (show Maps.size D0 ≤ maxLen by show Maps.size D0 ≤ 9223372036854775807; omega) (show Maps.size D0 * 8 ≤ 140737488355328 by omega) _ hseq
  refine ((callsIn_wide (n := 5)).1 cS).mono ?_
  rintro e w' ⟨v, ss, rfl, hS, hrow, hnil, hb⟩
  rw [World.size_alloc] at hrow hb
  exact ⟨v, ss, rfl, hS, Kd.R_of_own (by rw [List.length_mergeSort]; exact hrow) (fun _ _ => trivial), hb⟩
end Go.Proofs.YtphaaagcdjpceaaDoor
namespace Go.Proofs.YtphaaagcdjpceaaDoor
open Go.RowKit Go.Extern.Stop Go.Stop Go.Extern Go.Proofs.YtphaaagcdjpceaaDoorW.PrintWords Go.Proofs.YtphaaagcdjpceaaDoorW.PrintLast Go.Proofs.YtphaaagcdjpceaaDoorW.PrintMore
open Go.Maps (Keyed)
set_option linter.unusedVariables false
structure Pd (W w' : World) (M n : Nat) (D : DataW Unit) : Prop where
  mp : MP w' M n D
  gr : W.grownBy w' (some M)
set_option maxRecDepth 100000 in
theorem upon_del {o : Oper} {a : Act} {K : Act → World → Prop} {Q : Exit → Act → World → Prop} {W : World} {M n : Nat} {D : DataW Unit} {p : Int} {ty : TypeId} {f : Value → World → Result Next} (h : MP W M n D) (hp : (Lit.int .i64 p).wf = true)
    (hk : ∀ w', Pd W w' M n (D.del (.int .i64 p)) → Oper.upon Tryd.prog o a K Q ((Result.ok (.tuple #[]) w').andThen f)) :
    Oper.upon Tryd.prog o a K Q ((Sem.run Tryd.prog (Builtin.delete_ #[131, 3] ty #[.map (some M), .int .i64 p]) W).andThen f) := by
  obtain ⟨w', hr, h1, h2⟩ := World.ownsMap.drop h key3 Tryd.underlying131 (Go.Maps.keyOf_int_mk Tryd.underlying3 hp) ty
  rw [hr]
  exact hk w' ⟨h1, h2.grown⟩
theorem infoI3 : (Tryd.prog.info? 3).map (fun i => (i.zero, i.size, i.bytes)) = some (some (.int .i64 0), 1, 8) := by kernel_rfl
set_option maxHeartbeats 8000000 in
set_option maxRecDepth 100000 in
theorem close_ok (d base pg M sb : Nat) (most n : Int) (ps : List S108) (snaps : Int) (cap : Nat) (D : DataW Unit) (i : Nat) (t : Int) (sm : Int) (s : Sn) (w : World) (h : DK w base d pg M most n ps snaps cap D) (hi : i < ps.length) (hl : ps.length ≤ 1000) (hh : hasB ps (i : Int) t = true) (hs : D.atKey (.int .i64 (i : Int)) .nil = .lit (.int .i64 (sb : Int)))
    (hn0 : -1000000 ≤ n) (hn1 : n ≤ 1000000) (hM : base ≤ M) (hS : SS w base sb sm s) (hmax : Go.Maps.size s.D ≤ 1000000) (val : Int → Int) (hval : ∀ k ∈ Go.intKeys s.D, (Lit.int .i64 k).wf = true ∧ s.D.atKey (.int .i64 k) (.lit (.int .i64 0)) = .lit (.int .i64 (val k))) (hne : ∀ k, foot w sb s k → k ≠ pg ∧ some k ≠ abk w pg ∧ k ≠ M) :
    Calls Tryd.prog 43 #[.pointer (some ⟨d, 0, none⟩), .agg #[.int .i64 (i : Int), .int .i64 t]] w fun e w' => ∃ v, e = .returned (.tuple #[v, .nilIface]) ∧ Kd.R (Kd.int .i64) 3 w' w.heap.size (fun _ => True) v (((Go.intKeys s.D).mergeSort (fun x y => decide (x ≤ y))).map val) ∧ DK w' base d pg M most (n - 1) (ps.set i ⟨(plc ps i).f0, false⟩) snaps cap (D.del (.int .i64 (i : Int))) ∧ DF pg M w w' ∧ Below base w w' := by
  have B1 := below_alloc (Below.refl w.heap.size w) (.cells #[.int .i64 (i : Int), .int .i64 t] 40)
  have HN := Lib.hid (show Hn (w.alloc (.cells #[.int .i64 (i : Int), .int .i64 t] 40)) w.heap.size (i : Int) t from heap_alloc_new w _)
  have HD := Lib.hid (h.below B1)
  have HS := Lib.hid (hS.below B1)
  have HB := Lib.hid B1
  have HE := Lib.hid (fun k hk => hne k ((foot_same (B1.block s.sg hS.pl.glt) k).1 hk) : ∀ k, foot (w.alloc (.cells #[.int .i64 (i : Int), .int .i64 t] 40)) sb s k → k ≠ pg ∧ some k ≠ abk w pg ∧ k ≠ M)
  have HPW := Lib.hid h.pl.glt
  have HBW := Lib.hid (And.intro h.pl.lt hM)
  have HVAL := Lib.hid hval
  have HMX := Lib.hid hmax
  clear hval hmax
  have HA := Lib.hid (And.intro hi (And.intro hl (And.intro hh (And.intro hs (And.intro hn0 hn1)))))
  have HWF := Lib.hid (show (Lit.int .i64 (i : Int)).wf = true from wf_i64 (by omega) (by omega))
  clear B1 h hi hl hh hs hn0 hn1 hS hne hM
  go_enter Tryd.func43, Tryd.ntmps43
  go_upto_region 1 with (fail)
  generalize w.alloc (.cells #[.int .i64 (i : Int), .int .i64 t] 40) = w1 at *
  have q0 := (blk_cell HD.out.hd 0).trans (show _ = some (Value.pointer (some ⟨pg, 0, none⟩)) from rfl)
  have k0 := (blk_cell HN.out 0).trans (show _ = some (Value.int .i64 (i : Int)) from rfl)
  have k1 := (blk_cell HN.out 1).trans (show _ = some (Value.int .i64 t) from rfl)
  obtain ⟨hi, hl, hh, hs, hn0, hn1⟩ := HA.out
  have HFr : Hid (∀ W', Below w1.heap.size w1 W' → Calls Tryd.prog 17 #[.pointer (some ⟨pg, 0, none⟩), .agg #[.int .i64 (i : Int), .int .i64 t]] W' fun e w' => e = .returned .nilIface ∧ PL w' base pg most (ps.set i ⟨(plc ps i).f0, false⟩) (n - 1) ∧ Fq base pg W' w') := fun W' hb' => free_oq pg base most n ps i t W' (HD.out.pl.below hb') hi hh hn0 hn1
  clear hi hl hh hs hn0 hn1
  go_cut [6] (fun v6 wc => v6 = .nilIface ∧ Hid (PL wc base pg most (ps.set i ⟨(plc ps i).f0, false⟩) (n - 1)) ∧ Hid (Fq base pg w1 wc))
  case first =>
    have HK1 := Lib.hid (Below.refl w1.heap.size w1)
    have HPG := Lib.hid HD.out.pl.glt
    have HLB := Lib.hid (show base ≤ w1.heap.size from HD.out.pl.lt)
    go_region_held3 (fun w' => w'.cell? ⟨d, 0, none⟩ = some (.pointer (some ⟨pg, 0, none⟩)) ∧ w'.cell? ⟨w.heap.size, 0, none⟩ = some (.int .i64 (i : Int)) ∧ w'.cell? ⟨w.heap.size, 1, none⟩ = some (.int .i64 t)) (first | go_keep | exact ⟨q0, k0, k1⟩ | exact ⟨(blk_cell ((HF2.out.fr.2.2 d _ _ _ HD.out.hd (by decide)).trans HD.out.hd) 0).trans rfl, (blk_cell ((HF2.out.fr.2.2 w.heap.size _ _ _ HN.out (by decide)).trans HN.out) 0).trans rfl, (blk_cell ((HF2.out.fr.2.2 w.heap.size _ _ _ HN.out (by decide)).trans HN.out) 1).trans rfl⟩) ((go_at_call 17; (with_reducible refine (HFr.out _ (by first | exact HK1.out | exact below_drew1 HK1.out)).mono ?_); rintro e wx ⟨rfl, hp, hf⟩; have HP2 := Lib.hid hp; have HF2 := Lib.hid (show Fq base pg w1 wx from (Fq.of_below (below_drew1 HK1.out) HLB.out HPG.out).trans hf); clear hp hf))
    all_goals (
      go_wp2
      go_meet
      case rel => exact ⟨rfl, HP2, HF2⟩)
  case rest =>
    obtain ⟨rfl, HP2, HF2⟩ := hcut
    have hab : abk w1 pg = abk w pg := abk_same (HB.out.block pg HPW.out)
    have hd2 := (HF2.out.fr.2.2 d _ _ _ HD.out.hd (by decide)).trans HD.out.hd
    have HDc := Lib.hid (show DK wc base d pg M most (n - 1) (ps.set i ⟨(plc ps i).f0, false⟩) snaps cap D from ⟨hd2, HP2.out, mp_oth HD.out HF2.out.oth⟩)
    have HSc := Lib.hid (HS.out.same (W1 := wc) (fun k hk => HF2.out.oth.1 k (HS.out.lt k hk).2 (HE.out k hk).1 (by rw [hab]; exact (HE.out k hk).2.1)))
    have HNc := Lib.hid (show Hn wc w.heap.size (i : Int) t from (HF2.out.fr.2.2 w.heap.size _ _ _ HN.out (by decide)).trans HN.out)
    clear hab hd2 q0 k0 k1 HFr
    have q2 := (blk_cell HDc.out.hd 2).trans (show _ = some (Value.map (some M)) from rfl)
    have k0 := (blk_cell HNc.out 0).trans (show _ = some (Value.int .i64 (i : Int)) from rfl)
    have s3 := (blk_cell HSc.out.hd 3).trans (show _ = some (Value.map (some s.mb)) from rfl)
    have hlk := HDc.out.mp.look (i : Int) HWF.out HA.out.2.2.2.1
    go_upto_region 4 with (fail)
    go_quiet (fail)
    rename_i nq
    clear hlk s3
    go_upto_region 5 with (fail)
    have HD5 := Lib.hid (HDc.out.below (pw_below_drewN (Below.refl wc.heap.size wc) nq))
    have HS5 := Lib.hid (HSc.out.below (pw_below_drewN (Below.refl wc.heap.size wc) nq))
    have HN5 := Lib.hid (show Hn (wc.drewN nq) w.heap.size (i : Int) t from HNc.out)
    have HK5 := Lib.hid (pw_below_drewN (Below.refl wc.heap.size wc) nq)
    have HW5 := Lib.hid (show DF pg M w (wc.drewN nq) ∧ Below base w (wc.drewN nq) from ⟨((DF.of_below HB.out HPW.out).trans (DF.of_oth HF2.out.oth HF2.out.fr.1.size)).trans (DF.of_below HK5.out HDc.out.pl.glt), ((HB.out.mono HBW.out.1).trans HF2.out.fr.1).trans (HK5.out.mono HDc.out.pl.lt)⟩)
    clear q2 k0
    generalize wc.drewN nq = w5 at *
    have q2 := (blk_cell HD5.out.hd 2).trans (show _ = some (Value.map (some M)) from rfl)
    have k0 := (blk_cell HN5.out 0).trans (show _ = some (Value.int .i64 (i : Int)) from rfl)
    have HAP := Lib.hid HD5.out.apart
    have HXM := Lib.hid (show w.heap.size ≠ M by
      intro e
      obtain ⟨es, clock, hm, _⟩ := HD5.out.mp
      have hx := HN5.out
      unfold Hn at hx
      rw [e, hm] at hx; cases hx)
    go_cut [7] (fun v7 wd => v7 = .map (some s.mb) ∧ Hid (Pd w5 wd M cap (D.del (.int .i64 (i : Int)))))
    case first =>
      go_region_held3 (fun w' => w'.cell? ⟨d, 2, none⟩ = some (.map (some M)) ∧ w'.cell? ⟨w.heap.size, 0, none⟩ = some (.int .i64 (i : Int))) (first | go_keep | exact ⟨q2, k0⟩ | exact ⟨(World.cell?_of_block (a := ⟨d, 2, none⟩) (HPD.out.gr.block d (cell_lt q2) (by rintro e; injection e with e; exact HAP.out.1 e))).trans q2, (World.cell?_of_block (a := ⟨w.heap.size, 0, none⟩) (HPD.out.gr.block w.heap.size (cell_lt k0) (by rintro e; injection e with e; exact HXM.out e))).trans k0⟩) ((refine upon_del (show MP w5.drew M cap D from HD5.out.mp) HWF.out ?_; intro wm hm1; have HPD := Lib.hid (show Pd w5 wm M cap (D.del (.int .i64 (i : Int))) from ⟨hm1.mp, ⟨hm1.gr.os, hm1.gr.tape, hm1.gr.output, hm1.gr.size, hm1.gr.block⟩⟩); clear hm1; go_simp))
      all_goals (
        go_wp2
        go_meet
        case rel => exact ⟨rfl, HPD⟩)
    case rest =>
      obtain ⟨rfl, HPD⟩ := hcut
      have HDe := Lib.hid (HD5.out.put HPD.out.gr HPD.out.mp)
      have HW6 := Lib.hid (And.intro (HW5.out.1.trans (DF.of_put HPD.out.gr HD5.out.pl.glt HAP.out.2.1)) (Below.grown HW5.out.2 HPD.out.gr (Nat.le_trans HBW.out.1 HW5.out.1.size) (fun k hk => by injection hk with hk; subst hk; exact HBW.out.2)))
      have HRM := Lib.hid (show RM wc s.mb s.cap s.D from by
        obtain ⟨es, clock, hm, r⟩ := HS5.out.mp
        exact ⟨es, clock, (HPD.out.gr.block s.mb (blk_lt hm) (by rintro e; injection e with e; exact (HE.out s.mb (.inr (.inr (.inr (.inl rfl))))).2.2 e)).trans hm, r⟩)
      clear q2 k0 HD5 HS5 HN5 HK5 HPD HW5 HDc HSc HNc HD HS HN
      go_upto_region 8 with (first | (go_at_call 65; (with_reducible refine (keys_calls _ _).mono ?_); rintro e w6 ⟨rfl, rfl⟩) | (go_at_call 64; (with_reducible refine (sorted_calls s.mb s.cap s.D _ HRM.out HMX.out).mono ?_); rintro e w7 ⟨v, ks0, rfl, hpm, hrow, hb⟩; obtain ⟨A7, c7, rfl⟩ := Kd.R_slice hrow))
      obtain ⟨ks, hks⟩ : ∃ ks, ks0.mergeSort (fun x y => decide (x ≤ y)) = ks := ⟨_, rfl⟩
      rw [hks] at hrow
      have hlen : ks0.length = ks.length := by rw [← hks, List.length_mergeSort]
      rw [hlen]
      have HKS := Lib.hid (show ∀ k ∈ ks, (Lit.int .i64 k).wf = true ∧ s.D.atKey (.int .i64 k) (.lit (.int .i64 0)) = .lit (.int .i64 (val k)) from fun k hk => HVAL.out k (hpm.mem_iff.1 ((List.mergeSort_perm _ _).mem_iff.1 (by rw [hks]; exact hk))))
      have HPM := Lib.hid (show ks0.mergeSort (fun x y => decide (x ≤ y)) = ks ∧ ks0.Perm (Go.intKeys s.D) from ⟨hks, hpm⟩)
      have HRW := Lib.hid hrow
      have B6 := below_alloc (Below.refl wc.heap.size wc) (.cells #[.map (some s.mb)] 123)
      have hb7 : Below wc.heap.size wc w7 := below_step B6 (by rw [World.size_alloc]; exact hb)
      have HB7 := Lib.hid hb7
      have HR7 := Lib.hid (show RM w7 s.mb s.cap s.D from by
        obtain ⟨es, clock, hm, r⟩ := HRM.out
        exact ⟨es, clock, (hb7.block s.mb (blk_lt hm)).trans hm, r⟩)
      have HLK := Lib.hid (show ks.length ≤ 4000000000 from by
        have h2 := hpm.length_eq
        have h3 := HMX.out
        rw [← hlen, h2]
        cases hD : s.D <;> rw [hD] at h3 <;> simp [intKeys, Go.Maps.size] at h3 ⊢ <;> omega)
      clear B6 hb7 hrow hpm hks hb HRM hlen
      go_wp2_with (fail)
      go_loopg [8, 40] ks.length (fun gk v8 v40 wr => ∃ (j : Nat) (L : List Int), v40 = .int .i64 (j : Int) ∧ j ≤ ks.length ∧ ks.length - j ≤ gk ∧ Hid (L = (ks.take j).map val) ∧ Hid (Kd.R (Kd.int .i64) 3 wr w7.heap.size (fun _ => True) v8 L) ∧ Hid (Below w7.heap.size w7 wr))
      case atStart => exact ⟨0, [], rfl, by omega, by omega, Lib.hid rfl, Lib.hid (Kd.R_nil _ _ _ _ _), Lib.hid (Below.refl _ _)⟩
      case round =>
        obtain ⟨j, L, rfl, hj, hk, HL, HO, HBr⟩ := hrel
        by_cases c1 : j < ks.length
        · have b1 : decide ((j : Int) < (ks.length : Int)) = true := decide_eq_true (by omega)
          have b1' : decide (j < ks.length) = true := decide_eq_true c1
          obtain ⟨ad, hA, hx⟩ := Kd.at_int (Kd.C_below (Kd.R_reads' HRW.out).2.2 HBr.out) (j : Int) (by omega) (by omega)
          cases hA
          simp only [Int.toNat_natCast] at hx
          have hrd : rd ks (j : Int) = ks[j] := by simp [rd, c1]
          rw [hrd] at hx
          have hkk := HKS.out ks[j] (List.getElem_mem c1)
          obtain ⟨k, hkj⟩ : ∃ k, ks[j] = k := ⟨_, rfl⟩
          rw [hkj] at hx hkk
          have hlk := RM.look (show RM wr s.mb s.cap s.D from by
            obtain ⟨es, clock, hm, r⟩ := HR7.out
            exact ⟨es, clock, (HBr.out.block s.mb (blk_lt hm)).trans hm, r⟩) k hkk.1 hkk.2
          have hlk0 : (Instr.lookup 123 (.map (some s.mb)) (.int .i64 k) false).run Tryd.prog wr = .ok (.int .i64 (val k)) wr := hlk 0
          clear hlk
          have hkq : ks[j]? = some k := by rw [List.getElem?_eq_getElem c1, hkj]
          have HKJ := Lib.hid (And.intro c1 (And.intro hkq hk))
          have hlk9 := HLK.out
          have p1 := eq_true (show 0 ≤ (j : Int) by omega)
          have q1 := eq_true (show (j : Int) < (ks.length : Int) by omega)
          obtain ⟨A8, c8, hv8⟩ := Kd.R_slice HO.out
          cases hv8
          clear hk hkk hkj hrd hkq c1
          go_wp2_with ((with_reducible refine gate_builtin (b := .append) (xs := #[.tmp 44, .tmp 48]) rfl ?_); at_builtin; refine Kd.R_append (Kd.int .i64) (w0 := w7) w7.heap.size rfl (.tmp 44) (.tmp 48) 35 3 (.int .i64 0) 8 rfl Tryd.underlying35 infoI3 rfl (by decide) (by decide) (.slice A8 L.length c8) L (val k) [.int .i64 (val k)] (fun _ => True) (fun _ => False) rfl ?aX ?aP (fun _ hk => hk.elim) ?aF ?aO ?aB ?aS ?aL ?_; (case aX => first | rfl | (go_simp; done) | (go_simp; rfl)); (case aP => exact rfl); (case aB => exact HBr.out); (case aF => exact (fun _ _ => trivial)); (case aO => exact HO.out); (case aS => exact HBr.out.size); (case aL => (have := HLK.out; rw [HL.out]; simp only [List.length_map, List.length_take]; omega)); intro v9 w9 ho hb hg hat; have HO3 := Lib.hid ho; have HB3 := Lib.hid hb; clear ho hb hg hat)
          go_roundg (ks.length - (j + 1))
          case measure => have := HKJ.out.1; have := HKJ.out.2.2; omega
          case rel => exact ⟨j + 1, _, by simp, by have := HKJ.out.1; omega, by have := HKJ.out.1; have := HKJ.out.2.2; omega, Lib.hid (by rw [HL.out, List.take_add_one, HKJ.out.2.1]; simp), HO3, HB3⟩
        · have b1 : decide ((j : Int) < (ks.length : Int)) = false := decide_eq_false (by omega)
          have b1' : decide (j < ks.length) = false := decide_eq_false c1
          obtain rfl : j = ks.length := by omega
          obtain ⟨A8, c8, hv8⟩ := Kd.R_slice HO.out
          cases hv8
          have hwr := below_step HB7.out HBr.out
          have HF := Lib.hid (And.intro (HDe.out.below hwr) (And.intro (HW6.out.1.trans (DF.of_below hwr HDe.out.pl.glt)) (HW6.out.2.trans (hwr.mono HDe.out.pl.lt))))
          have HRF := Lib.hid (show Kd.R (Kd.int .i64) 3 wr w.heap.size (fun _ => True) (.slice A8 L.length c8) (((Go.intKeys s.D).mergeSort (fun x y => decide (x ≤ y))).map val) from by
            have e1 := mergeSort_of_perm_i HPM.out.2
            have e2 : (Go.intKeys s.D).mergeSort (fun x y => decide (x ≤ y)) = ks := e1.symm.trans HPM.out.1
            have e3 := HL.out
            rw [List.take_length] at e3
            rw [e2, ← e3]
            exact Kd.R_lower HO.out (Nat.le_trans HW6.out.1.size HB7.out.size))
          clear hwr hj hk
          go_wp2_with (fail)
          go_ret2
          exact ⟨_, rfl, HRF.out, HF.out.1, HF.out.2.1, HF.out.2.2⟩
end Go.Proofs.YtphaaagcdjpceaaDoor
namespace Go.Proofs.YtphaaagcdjpceaaDoor
open Go.RowKit Go.Extern.Stop Go.Stop Go.Extern Go.Proofs.YtphaaagcdjpceaaDoorW.PrintWords Go.Proofs.YtphaaagcdjpceaaDoorW.PrintLast Go.Proofs.YtphaaagcdjpceaaDoorW.PrintMore
open Go.Maps (Keyed)
set_option linter.unusedVariables false
theorem i64_bd {x : Int} (h : (Lit.int .i64 x).wf = true) : -9223372036854775808 ≤ x ∧ x ≤ 9223372036854775807 := i64_of_wf h
set_option maxHeartbeats 4000000 in
set_option maxRecDepth 100000 in
theorem send_busy (d base pg M sb : Nat) (most n : Int) (ps : List S108) (snaps : Int) (cap : Nat) (D : DataW Unit) (p t : Int) (sm : Int) (s : Sn) (w : World) (h : DK w base d pg M most n ps snaps cap D) (hp : (Lit.int .i64 p).wf = true) (hh : hasB ps p t = true) (hs : D.atKey (.int .i64 p) .nil = .lit (.int .i64 (sb : Int)))
    (hS : SS w base sb sm s) (hG : Good w) (hw : s.wt = true) (A : Option Addr) (m c : Nat) (hl : m ≤ 100000) :
    Calls Tryd.prog 41 #[.pointer (some ⟨d, 0, none⟩), .agg #[.int .i64 p, .int .i64 t], .slice A m c] w fun e w' => ∃ k, e = .returned (.iface 179 (.pointer (some ⟨k, 0, none⟩))) ∧ Joined w' k 17 ∧ Below w.heap.size w w' := by
  have B1 := below_alloc (Below.refl w.heap.size w) (.cells #[.int .i64 p, .int .i64 t] 40)
  have HN := Lib.hid (show Hn (w.alloc (.cells #[.int .i64 p, .int .i64 t] 40)) w.heap.size p t from heap_alloc_new w _)
  have HD := Lib.hid (h.below B1)
  have HS := Lib.hid (hS.below B1)
  have HG := Lib.hid (hG.below B1)
  have HB := Lib.hid B1
  have HA := Lib.hid (And.intro hp (And.intro hh (And.intro hs (And.intro hw hl))))
  have HLT := Lib.hid (And.intro (show sb < w.heap.size from blk_lt hS.hd) hS.lo.1)
  clear B1 h hp hh hs hS hw hl hG
  go_enter Tryd.func41, Tryd.ntmps41
  go_upto_region 1 with (fail)
  generalize w.alloc (.cells #[.int .i64 p, .int .i64 t] 40) = w1 at *
  have q0 := (blk_cell HN.out 0).trans (show _ = some (Value.int .i64 p) from rfl)
  have q1 := (blk_cell HN.out 1).trans (show _ = some (Value.int .i64 t) from rfl)
  have b1 : decide (100000 < (m : Int)) = false := decide_eq_false (by have := HA.out.2.2.2.2; omega)
  have b1' : decide (100000 < m) = false := decide_eq_false (by have := HA.out.2.2.2.2; omega)
  go_upto_region 6 with (go_at_call 61; (with_reducible refine (find_yes d base pg M sb most n ps snaps cap D p t _ HD.out HA.out.1 HA.out.2.1 HA.out.2.2.1).mono ?_); rintro e w2 ⟨rfl, hb⟩; have HB2 := Lib.hid (below_step HB.out hb); have HS2 := Lib.hid (HS.out.below hb); have HN2 := Lib.hid (show Hn w2 w.heap.size p t from blk_below HN.out hb); have HG2 := Lib.hid (HG.out.below hb); clear hb)
  clear q0 q1
  have s0 := (blk_cell HS2.out.hd 0).trans (show _ = some (Value.bool s.wt) from rfl)
  rw [HA.out.2.2.2.1] at s0
  have q0 := (blk_cell HN2.out 0).trans (show _ = some (Value.int .i64 p) from rfl)
  have q1 := (blk_cell HN2.out 1).trans (show _ = some (Value.int .i64 t) from rfl)
  go_wp2_with (go_at_call 62; (with_reducible refine (wrongd_calls 17 p t _ HG2.out (i64_bd HA.out.1)).mono ?_); rintro e w3 ⟨k, rfl, hj, hb⟩; have HJ := Lib.hid hj; have HB3 := Lib.hid (below_step HB2.out hb); clear hj hb)
  go_ret
  exact ⟨_, rfl, HJ.out, HB3.out⟩
set_option maxHeartbeats 4000000 in
set_option maxRecDepth 100000 in
theorem takes_idle (d base pg M sb : Nat) (most n : Int) (ps : List S108) (snaps : Int) (cap : Nat) (D : DataW Unit) (p t : Int) (sm : Int) (s : Sn) (w : World) (h : DK w base d pg M most n ps snaps cap D) (hp : (Lit.int .i64 p).wf = true) (hh : hasB ps p t = true) (hs : D.atKey (.int .i64 p) .nil = .lit (.int .i64 (sb : Int)))
    (hS : SS w base sb sm s) (hG : Good w) (hw : s.wt = false) :
    Calls Tryd.prog 49 #[.pointer (some ⟨d, 0, none⟩), .agg #[.int .i64 p, .int .i64 t]] w fun e w' => ∃ k, e = .returned (.tuple #[.slice none 0 0, .iface 179 (.pointer (some ⟨k, 0, none⟩))]) ∧ Joined w' k 18 ∧ Below w.heap.size w w' := by
  have B1 := below_alloc (Below.refl w.heap.size w) (.cells #[.int .i64 p, .int .i64 t] 40)
  have HN := Lib.hid (show Hn (w.alloc (.cells #[.int .i64 p, .int .i64 t] 40)) w.heap.size p t from heap_alloc_new w _)
  have HD := Lib.hid (h.below B1)
  have HS := Lib.hid (hS.below B1)
  have HG := Lib.hid (hG.below B1)
  have HB := Lib.hid B1
  have HA := Lib.hid (And.intro hp (And.intro hh (And.intro hs hw)))
  have HLT := Lib.hid (And.intro (show sb < w.heap.size from blk_lt hS.hd) hS.lo.1)
  clear B1 h hp hh hs hS hw hG
  go_enter Tryd.func49, Tryd.ntmps49
  go_upto_region 1 with (fail)
  generalize w.alloc (.cells #[.int .i64 p, .int .i64 t] 40) = w1 at *
  have q0 := (blk_cell HN.out 0).trans (show _ = some (Value.int .i64 p) from rfl)
  have q1 := (blk_cell HN.out 1).trans (show _ = some (Value.int .i64 t) from rfl)
  go_upto_region 4 with (go_at_call 61; (with_reducible refine (find_yes d base pg M sb most n ps snaps cap D p t _ HD.out HA.out.1 HA.out.2.1 HA.out.2.2.1).mono ?_); rintro e w2 ⟨rfl, hb⟩; have HB2 := Lib.hid (below_step HB.out hb); have HS2 := Lib.hid (HS.out.below hb); have HN2 := Lib.hid (show Hn w2 w.heap.size p t from blk_below HN.out hb); have HG2 := Lib.hid (HG.out.below hb); clear hb)
  clear q0 q1
  have s0 := (blk_cell HS2.out.hd 0).trans (show _ = some (Value.bool s.wt) from rfl)
  rw [HA.out.2.2.2] at s0
  have q0 := (blk_cell HN2.out 0).trans (show _ = some (Value.int .i64 p) from rfl)
  have q1 := (blk_cell HN2.out 1).trans (show _ = some (Value.int .i64 t) from rfl)
  go_wp2_with (go_at_call 62; (with_reducible refine (wrongd_calls 18 p t _ HG2.out (i64_bd HA.out.1)).mono ?_); rintro e w3 ⟨k, rfl, hj, hb⟩; have HJ := Lib.hid hj; have HB3 := Lib.hid (below_step HB2.out hb); clear hj hb)
  go_ret2
  exact ⟨_, rfl, HJ.out, HB3.out⟩
set_option maxHeartbeats 4000000 in
set_option maxRecDepth 100000 in
theorem takes_yes (d base pg M sb : Nat) (most n : Int) (ps : List S108) (snaps : Int) (cap : Nat) (D : DataW Unit) (p t : Int) (sm : Int) (s : Sn) (w : World) (h : DK w base d pg M most n ps snaps cap D) (hp : (Lit.int .i64 p).wf = true) (hh : hasB ps p t = true) (hs : D.atKey (.int .i64 p) .nil = .lit (.int .i64 (sb : Int)))
    (hS : SS w base sb sm s) (hw : s.wt = true) :
    Calls Tryd.prog 49 #[.pointer (some ⟨d, 0, none⟩), .agg #[.int .i64 p, .int .i64 t]] w fun e w' => e = .returned (.tuple #[s.bv, .nilIface]) ∧ SS w' base sb sm { s with wt := false, bv := .slice none 0 0, bs := [] } ∧ Kd.R (Kd.int .u8) 5 w' base (fun _ => True) s.bv s.bs ∧ SF sb w w' ∧ Below base w w' := by
  have B1 := below_alloc (Below.refl w.heap.size w) (.cells #[.int .i64 p, .int .i64 t] 40)
  have HN := Lib.hid (show Hn (w.alloc (.cells #[.int .i64 p, .int .i64 t] 40)) w.heap.size p t from heap_alloc_new w _)
  have HD := Lib.hid (h.below B1)
  have HS := Lib.hid (hS.below B1)
  have HB := Lib.hid B1
  have HA := Lib.hid (And.intro hp (And.intro hh (And.intro hs hw)))
  have HLT := Lib.hid (And.intro (show sb < w.heap.size from blk_lt hS.hd) hS.lo.1)
  clear B1 h hp hh hs hS hw
  go_enter Tryd.func49, Tryd.ntmps49
  go_upto_region 1 with (fail)
  generalize w.alloc (.cells #[.int .i64 p, .int .i64 t] 40) = w1 at *
  have q0 := (blk_cell HN.out 0).trans (show _ = some (Value.int .i64 p) from rfl)
  have q1 := (blk_cell HN.out 1).trans (show _ = some (Value.int .i64 t) from rfl)
  go_upto_region 4 with (go_at_call 61; (with_reducible refine (find_yes d base pg M sb most n ps snaps cap D p t _ HD.out HA.out.1 HA.out.2.1 HA.out.2.2.1).mono ?_); rintro e w2 ⟨rfl, hb⟩; have HB2 := Lib.hid (below_step HB.out hb); have HS2 := Lib.hid (HS.out.below hb); have HN2 := Lib.hid (show Hn w2 w.heap.size p t from blk_below HN.out hb); clear hb)
  clear q0 q1
  have s0 := (blk_cell HS2.out.hd 0).trans (show _ = some (Value.bool s.wt) from rfl)
  rw [HA.out.2.2.2] at s0
  have q0 := (blk_cell HN2.out 0).trans (show _ = some (Value.int .i64 p) from rfl)
  have q1 := (blk_cell HN2.out 1).trans (show _ = some (Value.int .i64 t) from rfl)
  obtain ⟨A, c, hv⟩ := Kd.R_slice HS2.out.by_
  have s1 := (blk_cell HS2.out.hd 1).trans (show _ = some s.bv from rfl)
  rw [hv] at s1
  have z0 := blk_frozen HS2.out.hd 0
  have z1 := blk_frozen HS2.out.hd 1
  have hlt := HLT.out
  have hs2 := HB2.out.size
  have HFIN := Lib.hid (HS2.out.bytes (Kd.R_nil (Kd.int .u8) 5 w2 w2.heap.size (fun _ => True)) (by omega) (by omega) false)
  have hne : ∀ k, k ≠ sb → ((w2.setCell ⟨sb, 0, none⟩ (.bool false)).setCell ⟨sb, 1, none⟩ (.slice none 0 0)).heap[k]? = w2.heap[k]? := fun k hk => (Below.heap_setCell _ ⟨sb, 1, none⟩ _ k hk).trans (Below.heap_setCell w2 ⟨sb, 0, none⟩ _ k hk)
  have HRF := Lib.hid (R_same (W1 := (w2.setCell ⟨sb, 0, none⟩ (.bool false)).setCell ⟨sb, 1, none⟩ (.slice none 0 0)) HS2.out.by_ rfl (fun k hk => hne k (by rintro rfl; exact HS2.out.apart.2.2.2 hk)))
  have HBL := Lib.hid (((HB2.out.mono (show base ≤ w.heap.size by omega)).setCell (p := ⟨sb, 0, none⟩) hlt.2 (.bool false)).setCell (p := ⟨sb, 1, none⟩) hlt.2 (.slice none 0 0))
  have HSF := Lib.hid (((SF.of_below (sb := sb) HB2.out).trans (SF.set sb 0 w2 (.bool false))).trans (SF.set sb 1 _ (.slice none 0 0)))
  clear hne hlt hs2
  go_wp2_with (fail)
  go_ret2
  exact ⟨by rw [hv]; rfl, HFIN.out, HRF.out, HSF.out, HBL.out⟩
set_option maxHeartbeats 4000000 in
set_option maxRecDepth 100000 in
theorem open_full (d base pg M : Nat) (n : Int) (ps : List S108) (snaps : Int) (cap : Nat) (D : DataW Unit) (i : Nat) (w : World) (hG : Good w) (h : DK w base d pg M (i : Int) n ps snaps cap D) (hi : i ≤ ps.length) (hf : ∀ j, j < i → (plc ps j).f1 = true) (hf2 : i < ps.length → (plc ps i).f1 = false) (hl : ps.length ≤ 1000) :
    Calls Tryd.prog 40 #[.pointer (some ⟨d, 0, none⟩)] w fun e w' => ∃ k, e = .returned (.tuple #[.agg #[.int .i64 0, .int .i64 0], .iface 179 (.pointer (some ⟨k, 0, none⟩))]) ∧ Joined w' k 2 ∧ Below w.heap.size w w' := by
  have B1 := below_alloc (Below.refl w.heap.size w) (.cells #[.int .i64 0, .int .i64 0] 40)
  have HN := Lib.hid (show Hn (w.alloc (.cells #[.int .i64 0, .int .i64 0] 40)) w.heap.size 0 0 from heap_alloc_new w _)
  have HD := Lib.hid (h.below B1)
  have HG := Lib.hid (hG.below B1)
  have HB := Lib.hid B1
  have HA := Lib.hid (And.intro hi (And.intro hf (And.intro hf2 hl)))
  clear B1 h hi hf hf2 hl hG
  have q0 := (blk_cell HD.out.hd 0).trans (show _ = some (Value.pointer (some ⟨pg, 0, none⟩)) from rfl)
  go_enter Tryd.func40, Tryd.ntmps40
  go_upto_region 1 with (fail)
  generalize w.alloc (.cells #[.int .i64 0, .int .i64 0] 40) = w1 at *
  go_upto_region 2 with (go_at_call 16; (with_reducible refine (take_full pg base n ps i _ HG.out HD.out.pl HA.out.1 HA.out.2.1 HA.out.2.2.1 HA.out.2.2.2).mono ?_); rintro e w2 ⟨k, rfl, hj, hb⟩; have HJ := Lib.hid hj; have HB2 := Lib.hid (below_step HB.out hb); have HN2 := Lib.hid (show Hn w2 w.heap.size 0 0 from blk_below HN.out hb); clear hj hb)
  have B4 := below_alloc (Below.refl w2.heap.size w2) (.cells #[.int .i64 0, .int .i64 0] 40)
  have HJ4 := Lib.hid (HJ.out.below B4)
  have HB4 := Lib.hid (below_step HB2.out B4)
  have HN4 := Lib.hid (blk_below HN2.out B4)
  clear B4
  go_upto_region 3 with (fail)
  generalize w2.alloc (.cells #[.int .i64 0, .int .i64 0] 40) = w4 at *
  have hn4 := HN4.out
  have z4 := (blk_cell hn4 0).trans (show _ = some (Value.int .i64 0) from rfl)
  have z5 := (blk_cell hn4 1).trans (show _ = some (Value.int .i64 0) from rfl)
  have u0 : w4.frozen? ⟨w.heap.size, 0, none⟩ = false := blk_frozen hn4 0
  have u1 : w4.frozen? ⟨w.heap.size, 1, none⟩ = false := blk_frozen hn4 1
  have HJ5 := Lib.hid (HJ4.out.keeps ((((Keeps.refl [40] w4).set hn4 (by decide) 0 (.int .i64 0))).set (blk_set hn4 0 _) (by decide) 1 (.int .i64 0)) ⟨by decide, by decide⟩)
  have HB5 : Hid (Below w.heap.size w ((w4.setCell ⟨w.heap.size, 0, none⟩ (.int .i64 0)).setCell ⟨w.heap.size, 1, none⟩ (.int .i64 0))) := (HB4.out.setCell (p := ⟨w.heap.size, 0, none⟩) (Nat.le_refl _) _).setCell (p := ⟨w.heap.size, 1, none⟩) (Nat.le_refl _) _
  have r0 := (blk_cell (blk_set (blk_set hn4 0 (.int .i64 0)) 1 (.int .i64 0)) 0).trans (show _ = some (Value.int .i64 0) from rfl)
  have r1 := (blk_cell (blk_set (blk_set hn4 0 (.int .i64 0)) 1 (.int .i64 0)) 1).trans (show _ = some (Value.int .i64 0) from rfl)
  clear hn4
  go_wp2_with (fail)
  exact bodyPost_ret (v := .tuple #[.agg #[.int .i64 0, .int .i64 0], .iface 179 (.pointer (some ⟨k, 0, none⟩))]) (by simp [results, Tryd.results40, go_sem, r0, r1]) rfl ⟨k, rfl, HJ5.out, HB5.out⟩
end Go.Proofs.YtphaaagcdjpceaaDoor
namespace Go.Proofs.YtphaaagcdjpceaaDoor
open Go.RowKit Go.Extern.Stop Go.Stop Go.Extern Go.Proofs.YtphaaagcdjpceaaDoorW.PrintWords Go.Proofs.YtphaaagcdjpceaaDoorW.PrintLast Go.Proofs.YtphaaagcdjpceaaDoorW.PrintMore
set_option linter.unusedVariables false
set_option maxHeartbeats 4000000 in
set_option maxRecDepth 100000 in
theorem same_yes (A B : Option Addr) (c c' : Nat) (xs : List Int) (w : World) (h1 : Kd.C (Kd.int .i64) w A xs.length xs) (h2 : Kd.C (Kd.int .i64) w B xs.length xs) (hl : xs.length ≤ 4000000000) : Calls Tryd.prog 44 #[.slice A xs.length c, .slice B xs.length c'] w fun e w' => e = .returned (.bool true) ∧ Below w.heap.size w w' := by
  have H1 := Lib.hid h1
  have H2 := Lib.hid h2
  have HL := Lib.hid hl
  clear h1 h2 hl
  go_enter Tryd.func44, Tryd.ntmps44
  go_wp2_with (fail)
  go_loopg [5] xs.length (fun gk v5 wr => ∃ j : Nat, v5 = .int .i64 (j : Int) ∧ j ≤ xs.length ∧ xs.length - j ≤ gk ∧ Hid (Below w.heap.size w wr))
  case atStart => exact ⟨0, rfl, by omega, by omega, Lib.hid (Below.refl _ _)⟩
  case round =>
    obtain ⟨j, rfl, hj, hk, HB⟩ := hrel
    by_cases c1 : j < xs.length
    · have b1 : decide ((j : Int) < (xs.length : Int)) = true := decide_eq_true (by omega)
      have b1' : decide (j < xs.length) = true := decide_eq_true c1
      obtain ⟨ad, hA, hx⟩ := Kd.at_int (Kd.C_below H1.out HB.out) (j : Int) (by omega) (by omega)
      obtain ⟨ad2, hA2, hx2⟩ := Kd.at_int (Kd.C_below H2.out HB.out) (j : Int) (by omega) (by omega)
      cases hA
      cases hA2
      simp only [Int.toNat_natCast] at hx hx2
      generalize rd xs (j : Int) = k at *
      have p1 := eq_true (show 0 ≤ (j : Int) by omega)
      have q1 := eq_true (show (j : Int) < (xs.length : Int) by omega)
      have hl9 := HL.out
      go_upto_region 6 with (fail)
      go_quiet (fail)
      rename_i nq
      have HB2 := Lib.hid (pw_below_drewN HB.out nq)
      go_wp2_with (fail)
      go_roundg (xs.length - (j + 1))
      case measure => omega
      case rel => exact ⟨j + 1, by simp, by omega, by omega, HB2⟩
    · have b1 : decide ((j : Int) < (xs.length : Int)) = false := decide_eq_false (by omega)
      have b1' : decide (j < xs.length) = false := decide_eq_false c1
      go_wp2_with (fail)
      go_ret
      exact ⟨rfl, by first | exact HB.out | exact pw_below_drewN HB.out _⟩
end Go.Proofs.YtphaaagcdjpceaaDoor
namespace Go.Proofs.YtphaaagcdjpceaaDoor
open Go.RowKit Go.Extern.Stop Go.Stop Go.Extern Go.Proofs.YtphaaagcdjpceaaDoorW.PrintWords Go.Proofs.YtphaaagcdjpceaaDoorW.PrintLast Go.Proofs.YtphaaagcdjpceaaDoorW.PrintMore
open Go.Maps (Keyed)
set_option linter.unusedVariables false
set_option maxHeartbeats 4000000 in
set_option maxRecDepth 100000 in
theorem takes_no (d base pg M : Nat) (most n : Int) (ps : List S108) (snaps : Int) (cap : Nat) (D : DataW Unit) (p t : Int) (w : World) (hG : Good w) (h : DK w base d pg M most n ps snaps cap D) (hp : -9223372036854775808 ≤ p ∧ p ≤ 9223372036854775807) (hh : hasB ps p t = false) :
    Calls Tryd.prog 49 #[.pointer (some ⟨d, 0, none⟩), .agg #[.int .i64 p, .int .i64 t]] w fun e w' => ∃ k, e = .returned (.tuple #[.slice none 0 0, .iface 179 (.pointer (some ⟨k, 0, none⟩))]) ∧ Joined w' k 3 ∧ Below w.heap.size w w' := by
  have B1 := below_alloc (Below.refl w.heap.size w) (.cells #[.int .i64 p, .int .i64 t] 40)
  have HN := Lib.hid (show Hn (w.alloc (.cells #[.int .i64 p, .int .i64 t] 40)) w.heap.size p t from heap_alloc_new w _)
  have HD := Lib.hid (h.below B1)
  have HG := Lib.hid (hG.below B1)
  have HB := Lib.hid B1
  have HA := Lib.hid (And.intro hp hh)
  clear B1 h hp hh hG
  go_enter Tryd.func49, Tryd.ntmps49
  go_upto_region 1 with (fail)
  generalize w.alloc (.cells #[.int .i64 p, .int .i64 t] 40) = w1 at *
  have q0 := (blk_cell HN.out 0).trans (show _ = some (Value.int .i64 p) from rfl)
  have q1 := (blk_cell HN.out 1).trans (show _ = some (Value.int .i64 t) from rfl)
  go_wp2_with (go_at_call 61; (with_reducible refine (find_no d base pg M most n ps snaps cap D p t _ HG.out HD.out HA.out.1 HA.out.2).mono ?_); rintro e w2 ⟨k, rfl, hj, hb⟩; have HJ := Lib.hid hj; have HB2 := Lib.hid (below_step HB.out hb); clear hb hj)
  go_ret2
  exact ⟨_, rfl, HJ.out, HB2.out⟩
set_option maxHeartbeats 4000000 in
set_option maxRecDepth 100000 in
theorem finds_no (d base pg M : Nat) (most n : Int) (ps : List S108) (snaps : Int) (cap : Nat) (D : DataW Unit) (p t : Int) (w : World) (hG : Good w) (h : DK w base d pg M most n ps snaps cap D) (hp : -9223372036854775808 ≤ p ∧ p ≤ 9223372036854775807) (hh : hasB ps p t = false) (p2 t2 : Int) :
    Calls Tryd.prog 47 #[.pointer (some ⟨d, 0, none⟩), .agg #[.int .i64 p, .int .i64 t], .agg #[.int .i64 p2, .int .i64 t2]] w fun e w' => ∃ k, e = .returned (.tuple #[.int .i64 0, .iface 179 (.pointer (some ⟨k, 0, none⟩))]) ∧ Joined w' k 3 ∧ Below w.heap.size w w' := by
  obtain ⟨B1, hN, hR⟩ := two40 w (.int .i64 p) (.int .i64 t) (.int .i64 p2) (.int .i64 t2)
  have HN := Lib.hid (show Hn ((w.alloc (.cells #[.int .i64 p, .int .i64 t] 40)).alloc (.cells #[.int .i64 p2, .int .i64 t2] 40)) w.heap.size p t from hN)
  have HR := Lib.hid (show Hn ((w.alloc (.cells #[.int .i64 p, .int .i64 t] 40)).alloc (.cells #[.int .i64 p2, .int .i64 t2] 40)) (w.heap.size + 1) p2 t2 from hR)
  have HD := Lib.hid (h.below B1)
  have HG := Lib.hid (hG.below B1)
  have HB := Lib.hid B1
  have HA := Lib.hid (And.intro hp hh)
  clear B1 hN hR h hp hh hG
  go_enter Tryd.func47, Tryd.ntmps47
  go_upto_region 1 with (fail)
  generalize (w.alloc (.cells #[.int .i64 p, .int .i64 t] 40)).alloc (.cells #[.int .i64 p2, .int .i64 t2] 40) = w1 at *
  have q0 := (blk_cell HN.out 0).trans (show _ = some (Value.int .i64 p) from rfl)
  have q1 := (blk_cell HN.out 1).trans (show _ = some (Value.int .i64 t) from rfl)
  go_wp2_with (go_at_call 61; (with_reducible refine (find_no d base pg M most n ps snaps cap D p t _ HG.out HD.out HA.out.1 HA.out.2).mono ?_); rintro e w2 ⟨k, rfl, hj, hb⟩; have HJ := Lib.hid hj; have HB2 := Lib.hid (below_step HB.out hb); clear hb hj)
  go_ret2
  exact ⟨_, rfl, HJ.out, HB2.out⟩
set_option maxHeartbeats 4000000 in
set_option maxRecDepth 100000 in
theorem keep_no (d base pg M : Nat) (most n : Int) (ps : List S108) (snaps : Int) (cap : Nat) (D : DataW Unit) (p t : Int) (w : World) (hG : Good w) (h : DK w base d pg M most n ps snaps cap D) (hp : -9223372036854775808 ≤ p ∧ p ≤ 9223372036854775807) (hh : hasB ps p t = false) (r : Int) :
    Calls Tryd.prog 42 #[.pointer (some ⟨d, 0, none⟩), .agg #[.int .i64 p, .int .i64 t], .int .i64 r] w fun e w' => ∃ k, e = .returned (.tuple #[.agg #[.int .i64 0, .int .i64 0], .iface 179 (.pointer (some ⟨k, 0, none⟩))]) ∧ Joined w' k 3 ∧ Below w.heap.size w w' := by
  obtain ⟨B1, hN, hR⟩ := two40 w (.int .i64 p) (.int .i64 t) (.int .i64 0) (.int .i64 0)
  have HN := Lib.hid (show Hn ((w.alloc (.cells #[.int .i64 p, .int .i64 t] 40)).alloc (.cells #[.int .i64 0, .int .i64 0] 40)) w.heap.size p t from hN)
  have HR := Lib.hid (show Hn ((w.alloc (.cells #[.int .i64 p, .int .i64 t] 40)).alloc (.cells #[.int .i64 0, .int .i64 0] 40)) (w.heap.size + 1) 0 0 from hR)
  have HD := Lib.hid (h.below B1)
  have HG := Lib.hid (hG.below B1)
  have HB := Lib.hid B1
  have HA := Lib.hid (And.intro hp hh)
  clear B1 hN hR h hp hh hG
  go_enter Tryd.func42, Tryd.ntmps42
  go_upto_region 1 with (fail)
  generalize (w.alloc (.cells #[.int .i64 p, .int .i64 t] 40)).alloc (.cells #[.int .i64 0, .int .i64 0] 40) = w1 at *
  have q0 := (blk_cell HN.out 0).trans (show _ = some (Value.int .i64 p) from rfl)
  have q1 := (blk_cell HN.out 1).trans (show _ = some (Value.int .i64 t) from rfl)
  go_upto_region 3 with (go_at_call 61; (with_reducible refine (find_no d base pg M most n ps snaps cap D p t _ HG.out HD.out HA.out.1 HA.out.2).mono ?_); rintro e w2 ⟨k, rfl, hj, hb⟩; have HJ := Lib.hid hj; have HB2 := Lib.hid (below_step HB.out hb); have HR2 := Lib.hid (show Hn w2 (w.heap.size + 1) 0 0 from blk_below HR.out hb); clear hb hj)
  have hn4 := HR2.out
  have z4 := (blk_cell hn4 0).trans (show _ = some (Value.int .i64 0) from rfl)
  have z5 := (blk_cell hn4 1).trans (show _ = some (Value.int .i64 0) from rfl)
  have u0 : w2.frozen? ⟨w.heap.size + 1, 0, none⟩ = false := blk_frozen hn4 0
  have u1 : w2.frozen? ⟨w.heap.size + 1, 1, none⟩ = false := blk_frozen hn4 1
  have HJ5 := Lib.hid (HJ.out.keeps ((((Keeps.refl [40] w2).set hn4 (by decide) 0 (.int .i64 0))).set (blk_set hn4 0 _) (by decide) 1 (.int .i64 0)) ⟨by decide, by decide⟩)
  have HB5 : Hid (Below w.heap.size w ((w2.setCell ⟨w.heap.size + 1, 0, none⟩ (.int .i64 0)).setCell ⟨w.heap.size + 1, 1, none⟩ (.int .i64 0))) := (HB2.out.setCell (p := ⟨w.heap.size + 1, 0, none⟩) (Nat.le_succ _) _).setCell (p := ⟨w.heap.size + 1, 1, none⟩) (Nat.le_succ _) _
  have r0 := (blk_cell (blk_set (blk_set hn4 0 (.int .i64 0)) 1 (.int .i64 0)) 0).trans (show _ = some (Value.int .i64 0) from rfl)
  have r1 := (blk_cell (blk_set (blk_set hn4 0 (.int .i64 0)) 1 (.int .i64 0)) 1).trans (show _ = some (Value.int .i64 0) from rfl)
  clear hn4
  go_wp2_with (fail)
  exact bodyPost_ret (v := .tuple #[.agg #[.int .i64 0, .int .i64 0], .iface 179 (.pointer (some ⟨k, 0, none⟩))]) (by simp [results, Tryd.results42, go_sem, r0, r1]) rfl ⟨k, rfl, HJ5.out, HB5.out⟩
end Go.Proofs.YtphaaagcdjpceaaDoor
namespace Go.Proofs.YtphaaagcdjpceaaDoor
open Go.RowKit Go.Extern.Stop Go.Stop Go.Extern Go.Proofs.YtphaaagcdjpceaaDoorW.PrintWords Go.Proofs.YtphaaagcdjpceaaDoorW.PrintLast Go.Proofs.YtphaaagcdjpceaaDoorW.PrintMore
open Go.Maps (Keyed)
set_option linter.unusedVariables false
set_option maxHeartbeats 8000000 in
set_option maxRecDepth 100000 in
theorem keep_full (d base pg M sb : Nat) (most n : Int) (ps : List S108) (snaps : Int) (cap : Nat) (D : DataW Unit) (p t : Int) (s : Sn) (r : Int) (i : Nat) (w : World) (hG : Good w) (h : DK w base d pg M most n ps snaps cap D) (hp : (Lit.int .i64 p).wf = true) (hh : hasB ps p t = true) (hs : D.atKey (.int .i64 p) .nil = .lit (.int .i64 (sb : Int)))
    (hS : SS w base sb (i : Int) s) (hi : i ≤ s.ps.length) (hf : ∀ j, j < i → (plc s.ps j).f1 = true) (hf2 : i < s.ps.length → (plc s.ps i).f1 = false) (hl : s.ps.length ≤ 1000) :
    Calls Tryd.prog 42 #[.pointer (some ⟨d, 0, none⟩), .agg #[.int .i64 p, .int .i64 t], .int .i64 r] w fun e w' => ∃ k, e = .returned (.tuple #[.agg #[.int .i64 0, .int .i64 0], .iface 179 (.pointer (some ⟨k, 0, none⟩))]) ∧ Joined w' k 2 ∧ Below w.heap.size w w' := by
  obtain ⟨B1, hN, hR⟩ := two40 w (.int .i64 p) (.int .i64 t) (.int .i64 0) (.int .i64 0)
  have HN := Lib.hid (show Hn ((w.alloc (.cells #[.int .i64 p, .int .i64 t] 40)).alloc (.cells #[.int .i64 0, .int .i64 0] 40)) w.heap.size p t from hN)
  have HR := Lib.hid (show Hn ((w.alloc (.cells #[.int .i64 p, .int .i64 t] 40)).alloc (.cells #[.int .i64 0, .int .i64 0] 40)) (w.heap.size + 1) 0 0 from hR)
  have HD := Lib.hid (h.below B1)
  have HS := Lib.hid (hS.below B1)
  have HG := Lib.hid (hG.below B1)
  have HB := Lib.hid B1
  have HA := Lib.hid (And.intro hp (And.intro hh hs))
  have HT := Lib.hid (And.intro hi (And.intro hf (And.intro hf2 hl)))
  clear B1 hN hR h hp hh hs hS hi hf hf2 hl hG
  go_enter Tryd.func42, Tryd.ntmps42
  go_upto_region 1 with (fail)
  generalize (w.alloc (.cells #[.int .i64 p, .int .i64 t] 40)).alloc (.cells #[.int .i64 0, .int .i64 0] 40) = w1 at *
  have q0 := (blk_cell HN.out 0).trans (show _ = some (Value.int .i64 p) from rfl)
  have q1 := (blk_cell HN.out 1).trans (show _ = some (Value.int .i64 t) from rfl)
  go_upto_region 4 with (go_at_call 61; (with_reducible refine (find_yes d base pg M sb most n ps snaps cap D p t _ HD.out HA.out.1 HA.out.2.1 HA.out.2.2).mono ?_); rintro e w2 ⟨rfl, hb⟩; have HB2 := Lib.hid (below_step HB.out hb); have HS2 := Lib.hid (HS.out.below hb); have HG2 := Lib.hid (HG.out.below hb); have HR2 := Lib.hid (show Hn w2 (w.heap.size + 1) 0 0 from blk_below HR.out hb); clear hb)
  clear q0 q1
  have s2 := (blk_cell HS2.out.hd 2).trans (show _ = some (Value.pointer (some ⟨s.sg, 0, none⟩)) from rfl)
  go_upto_region 5 with (go_at_call 16; (with_reducible refine (take_full s.sg base s.n s.ps i _ HG2.out HS2.out.pl HT.out.1 HT.out.2.1 HT.out.2.2.1 HT.out.2.2.2).mono ?_); rintro e w3 ⟨k, rfl, hj, hb⟩; have HJ := Lib.hid hj; have HB3 := Lib.hid (below_step HB2.out hb); have HR3 := Lib.hid (show Hn w3 (w.heap.size + 1) 0 0 from blk_below HR2.out hb); clear hj hb)
  have B4 := below_alloc (Below.refl w3.heap.size w3) (.cells #[.int .i64 0, .int .i64 0] 40)
  have HJ4 := Lib.hid (HJ.out.below B4)
  have HB4 := Lib.hid (below_step HB3.out B4)
  have HN4 := Lib.hid (blk_below HR3.out B4)
  clear B4 s2
  go_upto_region 6 with (fail)
  generalize w3.alloc (.cells #[.int .i64 0, .int .i64 0] 40) = w4 at *
  have hn4 := HN4.out
  have z4 := (blk_cell hn4 0).trans (show _ = some (Value.int .i64 0) from rfl)
  have z5 := (blk_cell hn4 1).trans (show _ = some (Value.int .i64 0) from rfl)
  have u0 : w4.frozen? ⟨w.heap.size + 1, 0, none⟩ = false := blk_frozen hn4 0
  have u1 : w4.frozen? ⟨w.heap.size + 1, 1, none⟩ = false := blk_frozen hn4 1
  have HJ5 := Lib.hid (HJ4.out.keeps ((((Keeps.refl [40] w4).set hn4 (by decide) 0 (.int .i64 0))).set (blk_set hn4 0 _) (by decide) 1 (.int .i64 0)) ⟨by decide, by decide⟩)
  have HB5 : Hid (Below w.heap.size w ((w4.setCell ⟨w.heap.size + 1, 0, none⟩ (.int .i64 0)).setCell ⟨w.heap.size + 1, 1, none⟩ (.int .i64 0))) := (HB4.out.setCell (p := ⟨w.heap.size + 1, 0, none⟩) (Nat.le_succ _) _).setCell (p := ⟨w.heap.size + 1, 1, none⟩) (Nat.le_succ _) _
  have r0 := (blk_cell (blk_set (blk_set hn4 0 (.int .i64 0)) 1 (.int .i64 0)) 0).trans (show _ = some (Value.int .i64 0) from rfl)
  have r1 := (blk_cell (blk_set (blk_set hn4 0 (.int .i64 0)) 1 (.int .i64 0)) 1).trans (show _ = some (Value.int .i64 0) from rfl)
  clear hn4
  go_wp2_with (fail)
  exact bodyPost_ret (v := .tuple #[.agg #[.int .i64 0, .int .i64 0], .iface 179 (.pointer (some ⟨k, 0, none⟩))]) (by simp [results, Tryd.results42, go_sem, r0, r1]) rfl ⟨k, rfl, HJ5.out, HB5.out⟩
set_option maxHeartbeats 8000000 in
set_option maxRecDepth 100000 in
theorem find_gone (d base pg M sb : Nat) (most n : Int) (ps : List S108) (snaps : Int) (cap : Nat) (D : DataW Unit) (p t : Int) (sm : Int) (s : Sn) (p2 t2 : Int) (w : World) (hG : Good w) (h : DK w base d pg M most n ps snaps cap D) (hp : (Lit.int .i64 p).wf = true) (hh : hasB ps p t = true) (hs : D.atKey (.int .i64 p) .nil = .lit (.int .i64 (sb : Int)))
    (hS : SS w base sb sm s) (hh2 : hasB s.ps p2 t2 = false) :
    Calls Tryd.prog 47 #[.pointer (some ⟨d, 0, none⟩), .agg #[.int .i64 p, .int .i64 t], .agg #[.int .i64 p2, .int .i64 t2]] w fun e w' => ∃ k, e = .returned (.tuple #[.int .i64 0, .iface 179 (.pointer (some ⟨k, 0, none⟩))]) ∧ Joined w' k 3 ∧ Below w.heap.size w w' := by
  obtain ⟨B1, hN, hR⟩ := two40 w (.int .i64 p) (.int .i64 t) (.int .i64 p2) (.int .i64 t2)
  have HN := Lib.hid (show Hn ((w.alloc (.cells #[.int .i64 p, .int .i64 t] 40)).alloc (.cells #[.int .i64 p2, .int .i64 t2] 40)) w.heap.size p t from hN)
  have HR := Lib.hid (show Hn ((w.alloc (.cells #[.int .i64 p, .int .i64 t] 40)).alloc (.cells #[.int .i64 p2, .int .i64 t2] 40)) (w.heap.size + 1) p2 t2 from hR)
  have HD := Lib.hid (h.below B1)
  have HS := Lib.hid (hS.below B1)
  have HB := Lib.hid B1
  have HA := Lib.hid (And.intro hp (And.intro hh (And.intro hs hh2)))
  have HG := Lib.hid (hG.below B1)
  clear B1 hN hR h hp hh hs hS hh2 hG
  go_enter Tryd.func47, Tryd.ntmps47
  go_upto_region 1 with (fail)
  generalize (w.alloc (.cells #[.int .i64 p, .int .i64 t] 40)).alloc (.cells #[.int .i64 p2, .int .i64 t2] 40) = w1 at *
  have q0 := (blk_cell HN.out 0).trans (show _ = some (Value.int .i64 p) from rfl)
  have q1 := (blk_cell HN.out 1).trans (show _ = some (Value.int .i64 t) from rfl)
  go_upto_region 4 with (go_at_call 61; (with_reducible refine (find_yes d base pg M sb most n ps snaps cap D p t _ HD.out HA.out.1 HA.out.2.1 HA.out.2.2.1).mono ?_); rintro e w2 ⟨rfl, hb⟩; have HB2 := Lib.hid (below_step HB.out hb); have HS2 := Lib.hid (HS.out.below hb); have HR2 := Lib.hid (show Hn w2 (w.heap.size + 1) p2 t2 from blk_below HR.out hb); have HG2 := Lib.hid (HG.out.below hb); have HN2 := Lib.hid (show Hn w2 w.heap.size p t from blk_below HN.out hb); clear hb)
  clear q0 q1
  have s2 := (blk_cell HS2.out.hd 2).trans (show _ = some (Value.pointer (some ⟨s.sg, 0, none⟩)) from rfl)
  have k0 := (blk_cell HR2.out 0).trans (show _ = some (Value.int .i64 p2) from rfl)
  have k1 := (blk_cell HR2.out 1).trans (show _ = some (Value.int .i64 t2) from rfl)
  have HC : Hid (∀ W', Below w2.heap.size w2 W' → Calls Tryd.prog 22 #[.pointer (some ⟨s.sg, 0, none⟩), .agg #[.int .i64 p2, .int .i64 t2]] W' fun e w' => e = .returned (.bool false) ∧ Below W'.heap.size W' w') := fun W' hb' => by
    refine (has_calls s.sg base sm s.n s.ps p2 t2 W' (HS2.out.pl.below hb')).mono ?_
    rintro e w' ⟨rfl, hb2⟩
    exact ⟨by rw [HA.out.2.2.2], hb2⟩
  go_cut [20] (fun v20 wc => v20 = .bool true ∧ Hid (Below w2.heap.size w2 wc))
  case first =>
    have HK1 := Lib.hid (Below.refl w2.heap.size w2)
    go_region_held3 (fun w' => w'.cell? ⟨sb, 2, none⟩ = some (.pointer (some ⟨s.sg, 0, none⟩)) ∧ w'.cell? ⟨w.heap.size + 1, 0, none⟩ = some (.int .i64 p2) ∧ w'.cell? ⟨w.heap.size + 1, 1, none⟩ = some (.int .i64 t2)) (first | go_keep | exact ⟨s2, k0, k1⟩ | exact ⟨(HK1.out.cell (cell_lt s2)).trans s2, (HK1.out.cell (cell_lt k0)).trans k0, (HK1.out.cell (cell_lt k1)).trans k1⟩) (first | (go_at_call 22; (with_reducible refine (HC.out _ (by first | exact HK1.out | exact below_drew1 HK1.out)).mono ?_); rintro e wx ⟨rfl, hb⟩; first | (have HK1 := Lib.hid (below_step HK1.out hb)) | (have HK1 := Lib.hid (show Below w2.heap.size w2 wx from below_step (below_drew1 HK1.out) hb))))
    all_goals (
      go_wp2
      go_meet
      case rel => exact ⟨rfl, HK1⟩)
  case rest =>
    obtain ⟨rfl, HBc⟩ := hcut
    clear HC s2 k0 k1
    have HN3 := Lib.hid (show Hn _ w.heap.size p t from blk_below HN2.out HBc.out)
    have HB3 := Lib.hid (below_step HB2.out HBc.out)
    have HG3 := Lib.hid (HG2.out.below HBc.out)
    have k0 := (blk_cell HN3.out 0).trans (show _ = some (Value.int .i64 p) from rfl)
    have k1 := (blk_cell HN3.out 1).trans (show _ = some (Value.int .i64 t) from rfl)
    go_wp2_with (go_at_call 62; (with_reducible refine (wrongd_calls 3 p t _ HG3.out (i64_bd HA.out.1)).mono ?_); rintro e w3 ⟨k, rfl, hj, hb⟩; have HJ := Lib.hid hj; have HB4 := Lib.hid (below_step HB3.out hb); clear hj hb)
    go_ret2
    exact ⟨_, rfl, HJ.out, HB4.out⟩
end Go.Proofs.YtphaaagcdjpceaaDoor
