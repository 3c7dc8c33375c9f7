/- errors.as at a joined error, errors.As, api.Code. -/
import Derived.Test.YtphaaagcdjpceaaDoorPo2
namespace Go.Proofs.YtphaaagcdjpceaaDoor
open Go.RowKit Go.Extern.Stop Go.Stop Go.Extern Go.Proofs.YtphaaagcdjpceaaDoorW.PrintWords Go.Proofs.YtphaaagcdjpceaaDoorW.PrintLast Go.Proofs.YtphaaagcdjpceaaDoorW.PrintMore
set_option linter.unusedVariables false
/-- A joined error of a text and a number, as it lies in memory. -/
def Joined (W : World) (k : Nat) (n : Int) : Prop := ∃ m s, W.heap[k]? = some (.cells #[.slice (some ⟨m, 0, none⟩) 2 2] 181 (0, 0)) ∧ W.heap[m]? = some (.cells #[.iface 182 (.pointer (some s)), .iface 26 (.int .i64 n)] 31 (0, 0))
theorem Joined.below {W W1 : World} {k : Nat} {n : Int} (h : Joined W k n) (hb : Below W.heap.size W W1) : Joined W1 k n := by
  obtain ⟨m, s, h1, h2⟩ := h
  exact ⟨m, s, blk_below h1 hb, blk_below h2 hb⟩
theorem cell_lt {W : World} {t : Addr} {v : Value} (h : W.cell? t = some v) : t.block < W.heap.size := by
  rcases Nat.lt_or_ge t.block W.heap.size with h' | h'
  · exact h'
  · simp [World.cell?, Array.getElem?_eq_none h'] at h
set_option maxHeartbeats 4000000 in
set_option maxRecDepth 100000 in
theorem as_join (k : Nat) (n : Int) (t a : Addr) (old : Value) (w : World) (hj : Joined w k n) (ha : w.cell? a = some (.pointer (some t))) (ht : w.cell? t = some old) (hf : w.frozen? t = false) : Calls Tryd.prog 71 #[.iface 179 (.pointer (some ⟨k, 0, none⟩)), .iface 103 (.pointer (some t)), .agg #[.pointer (some ⟨4, 103, none⟩), .pointer (some a), .int .u64 150], .iface 166 (.agg #[.pointer (some ⟨4, 26, none⟩)])] w fun e w' => e = .returned (.bool true) ∧ ∃ W1, Below w.heap.size w W1 ∧ w' = W1.setCell t (.int .i64 n) := by
  obtain ⟨m, s, hk, hm⟩ := hj
  have h80 := @run_callFunc_extern Tryd.prog 80 _ ReflectliteType.typeOf Tryd.func80 (by kernel_rfl) (by kernel_rfl) (by kernel_rfl) (by kernel_rfl)
  have h141 := @run_callFunc_extern Tryd.prog 141 _ (ReflectliteType.relation "AssignableTo" ReflectliteType.assignableTo) Tryd.func141 (by kernel_rfl) (by kernel_rfl) (by kernel_rfl) (by kernel_rfl)
  have f1 := typeOf179
  have f2 := methodAssignableTo
  have f3 := assignable179
  have f4 := noAs179
  have f5 := noU179
  have f6 := isL179
  have f7 := methodUnwrap
  have B1 := below_alloc (Below.refl w.heap.size w) (.cells #[.pointer (some ⟨4, 103, none⟩), .pointer (some a), .int .u64 150] 149)
  have hk1 := blk_below hk B1
  have hm1 := blk_below hm B1
  have ck := (blk_cell hk1 0).trans (show _ = some (Value.slice (some ⟨m, 0, none⟩) 2 2) from rfl)
  have c0 := (blk_cell hm1 0).trans (show _ = some (Value.iface 182 (.pointer (some s))) from rfl)
  have c1 := (blk_cell hm1 1).trans (show _ = some (Value.iface 26 (.int .i64 n)) from rfl)
  have B2 := below_alloc B1 (.cells #[.pointer (some ⟨4, 103, none⟩), .pointer (some a), .int .u64 150] 149)
  have hm2 := blk_below hm B2
  have d1 := (blk_cell hm2 1).trans (show _ = some (Value.iface 26 (.int .i64 n)) from rfl)
  have ha2 := (B2.cell (cell_lt ha)).trans ha
  have ht2 := (B2.cell (cell_lt ht)).trans ht
  have hf2 := (B2.frozen (cell_lt ht)).trans hf
  have HA := Lib.hid ha2; have HT := Lib.hid ht2; have HF := Lib.hid hf2
  have HB2 := Lib.hid B2
  clear hk hm ha ht hf B1 B2 hk1 hm1 hm2 ha2 ht2 hf2
  go_enter Tryd.func71, Tryd.ntmps71
  go_wp2
  refine wp_loop_rounds 1 ?_
  rw [rounds_succ]
  go_wp2_with (go_at_call 152; (with_reducible refine (unwrap_calls _ _ _ ck).mono ?_); rintro e w1 ⟨rfl, rfl⟩)
  refine wp_loop_rounds 3 ?_
  rw [rounds_succ]
  go_wp2_with (go_at_call 71; (with_reducible refine (as_str s t a _).mono ?_); rintro e w1 ⟨rfl, rfl⟩)
  rw [rounds_succ]
  go_wp2_with (go_at_call 71; (with_reducible refine (as_num n t a old _ HA.out HT.out HF.out).mono ?_); rintro e w1 ⟨rfl, rfl⟩)
  go_ret
  exact ⟨rfl, _, below_alloc (below_alloc HB2.out _) _, rfl⟩
set_option maxHeartbeats 4000000 in
set_option maxRecDepth 100000 in
theorem As_join (k : Nat) (n : Int) (t : Addr) (old : Value) (w : World) (hg : w.cell? ⟨0, 0, none⟩ = some (.iface 166 (.agg #[.pointer (some ⟨4, 31, none⟩)]))) (hj : Joined w k n) (ht : w.cell? t = some old) (hf : w.frozen? t = false) : Calls Tryd.prog 53 #[.iface 179 (.pointer (some ⟨k, 0, none⟩)), .iface 103 (.pointer (some t))] w fun e w' => e = .returned (.bool true) ∧ ∃ W1, Below w.heap.size w W1 ∧ w' = W1.setCell t (.int .i64 n) := by
  have h68 := @run_callFunc_extern Tryd.prog 68 _ (fun args => ReflectliteValue.unpack (args.getD 0 (.tuple #[]))) Tryd.func68 (by kernel_rfl) (by kernel_rfl) (by kernel_rfl) (by kernel_rfl)
  have h69 := @run_callFunc_extern Tryd.prog 69 _ (ReflectliteValue.methodAny (ReflectliteValue.valueError "reflectlite.Value.Type" 0) (fun t _ _ _ => ReflectliteType.toType t)) Tryd.func69 (by kernel_rfl) (by kernel_rfl) (by kernel_rfl) (by kernel_rfl)
  have h70 := @run_callFunc_extern Tryd.prog 70 _ (ReflectliteValue.method (ReflectliteValue.valueError "reflectlite.Value.IsNil" 0) ReflectliteValue.isNil) Tryd.func70 (by kernel_rfl) (by kernel_rfl) (by kernel_rfl) (by kernel_rfl)
  have h132 := @run_callFunc_extern Tryd.prog 132 _ (ReflectliteType.abiMethod fun t => do pure (.int .u8 (← Rtype.kind t))) Tryd.func132 (by kernel_rfl) (by kernel_rfl) (by kernel_rfl) (by kernel_rfl)
  have h143 := @run_callFunc_extern Tryd.prog 143 _ (ReflectliteType.method ReflectliteType.elem) Tryd.func143 (by kernel_rfl) (by kernel_rfl) (by kernel_rfl) (by kernel_rfl)
  have h144 := @run_callFunc_extern Tryd.prog 144 _ (ReflectliteType.relation "Implements" ReflectliteType.implements_) Tryd.func144 (by kernel_rfl) (by kernel_rfl) (by kernel_rfl) (by kernel_rfl)
  have f6 := valueOf103
  have f7 := type103
  have mK := methodKind
  have mE := methodElem
  have mI := methodImplements
  have k103 := kind103
  have k26 := kind26
  have e103 := elem103
  have i26 := implements26
  have n8 := isNil103 ⟨w.heap.size, 0, none⟩ t ((w.alloc (.cells #[.pointer (some t)] 103)).alloc (.cells #[.pointer (some ⟨4, 103, none⟩), .pointer (some ⟨w.heap.size, 0, none⟩), .int .u64 150] 149)) (by simp)
  have B2 := below_alloc (below_alloc (Below.refl w.heap.size w) (.cells #[.pointer (some t)] 103)) (.cells #[.pointer (some ⟨4, 103, none⟩), .pointer (some ⟨w.heap.size, 0, none⟩), .int .u64 150] 149)
  have hg2 := (B2.cell (cell_lt hg)).trans hg
  have HJ := Lib.hid (hj.below B2)
  have HT := Lib.hid ((B2.cell (cell_lt ht)).trans ht)
  have HF := Lib.hid ((B2.frozen (cell_lt ht)).trans hf)
  have HA := Lib.hid (show ((w.alloc (.cells #[.pointer (some t)] 103)).alloc (.cells #[.pointer (some ⟨4, 103, none⟩), .pointer (some ⟨w.heap.size, 0, none⟩), .int .u64 150] 149)).cell? ⟨w.heap.size, 0, none⟩ = some (.pointer (some t)) by simp)
  have HB2 := Lib.hid B2
  clear B2 hj ht hf hg
  go_enter Tryd.func53, Tryd.ntmps53
  go_wp2_with (go_at_call 71; (with_reducible refine (as_join k n t _ old _ HJ.out HA.out HT.out HF.out).mono ?_); rintro e w1 ⟨rfl, W1, hb, rfl⟩; have HB3 := Lib.hid (below_step HB2.out hb); clear hb)
  go_ret
  exact ⟨rfl, _, HB3.out, rfl⟩
theorem code_nil (w : World) : Calls Tryd.prog 14 #[.nilIface] w fun e w' => e = .returned (.int .i64 0) ∧ w' = w := by
  go_enter Tryd.func14, Tryd.ntmps14
  go_wp2
  go_ret
  exact ⟨rfl, rfl⟩
set_option maxHeartbeats 4000000 in
set_option maxRecDepth 100000 in
theorem code_join (k : Nat) (n : Int) (w : World) (hg : w.cell? ⟨0, 0, none⟩ = some (.iface 166 (.agg #[.pointer (some ⟨4, 31, none⟩)]))) (hj : Joined w k n) : Calls Tryd.prog 14 #[.iface 179 (.pointer (some ⟨k, 0, none⟩))] w fun e w' => e = .returned (.int .i64 n) ∧ Below w.heap.size w w' := by
  have B1 := below_alloc (Below.refl w.heap.size w) (.cells #[.int .i64 0] 26)
  have HG := Lib.hid ((B1.cell (cell_lt hg)).trans hg)
  have HJ := Lib.hid (hj.below B1)
  have HB1 := Lib.hid B1
  have hnew := heap_alloc_new w (.cells #[.int .i64 0] 26)
  have HN := Lib.hid hnew
  clear hg hj B1 hnew
  go_enter Tryd.func14, Tryd.ntmps14
  go_wp2_with (fail)
  go_at_call 53
  (with_reducible refine (As_join k n ⟨w.heap.size, 0, none⟩ (.int .i64 0) _ HG.out HJ.out ((blk_cell HN.out 0).trans rfl) (blk_frozen HN.out 0)).mono ?_)
  rintro e w1 ⟨rfl, W1, hb, rfl⟩
  have hn1 := blk_set (blk_below HN.out hb) 0 (.int .i64 n)
  have c0 := (blk_cell hn1 0).trans (show _ = some (Value.int .i64 n) from rfl)
  have HB3 := Lib.hid ((below_step HB1.out hb).setCell (p := ⟨w.heap.size, 0, none⟩) (Nat.le_refl _) (.int .i64 n))
  clear hb hn1
  go_wp2
  go_ret
  exact ⟨rfl, HB3.out⟩
end Go.Proofs.YtphaaagcdjpceaaDoor
