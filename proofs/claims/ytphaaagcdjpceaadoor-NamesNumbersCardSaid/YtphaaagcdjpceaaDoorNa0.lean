/- quoinlaw0: all, Errno.Error, errors.As and api.Code at a Fault, the law's walk. -/
import Derived.Test.YtphaaagcdjpceaaDoorPo4
namespace Go.Proofs.YtphaaagcdjpceaaDoor
open Go.RowKit Go.Extern.Stop Go.Stop Go.Extern Go.Proofs.YtphaaagcdjpceaaDoorW.PrintWords Go.Proofs.YtphaaagcdjpceaaDoorW.PrintLast Go.Proofs.YtphaaagcdjpceaaDoorW.PrintMore
set_option linter.unusedVariables false
/-- The document's numbers. -/
def nums : List Int := [0, 1, 2, 3, 4, 5, 6, 7, 8, 9, 10, 11, 12, 13, 14, 15, 16, 17, 18, 1073741824, 35184372088832, 500, 1000, 20, 1000, 2000, 100, 0, 1, 2, 1, 2, 3, 1, 2, 3, 4, 1, 2, 3, 4, 5, 6, 1, 2, 3, 4, 5, 6, 1, 2, 3, 4, 5, 6, 1, 2, 3, 4]
def numCells : Array Value := (nums.flatMap fun x => [Value.int .i64 x, Value.int .i64 x]).toArray
theorem num_at (j : Nat) (h : j < 59) : ∃ x : Int, numCells[j * 2]? = some (.int .i64 x) ∧ numCells[j * 2 + 1]? = some (.int .i64 x) := by
  have key : ∀ j : Fin 59, ∃ x : Int, numCells[j.1 * 2]? = some (.int .i64 x) ∧ numCells[j.1 * 2 + 1]? = some (.int .i64 x) := by
    intro j
    rcases j with ⟨j, hj⟩
    have hall : (List.range 59).all (fun j => match numCells[j * 2]?, numCells[j * 2 + 1]? with | some (.int .i64 x), some (.int .i64 y) => decide (x = y) | _, _ => false) = true := by kernel_rfl
    have h2 := List.all_eq_true.1 hall j (List.mem_range.2 hj)
    revert h2
    split
    · rename_i x y e1 e2
      intro h2
      exact ⟨x, e1, by rw [e2, of_decide_eq_true h2]⟩
    · intro h2; cases h2
  exact key ⟨j, h⟩
set_option maxHeartbeats 4000000 in
set_option maxRecDepth 100000 in
theorem all_calls (w : World) : Calls Tryd.prog 12 #[] w fun e w' => e = .returned (.slice (some ⟨w.heap.size, 0, none⟩) 59 59) ∧ w' = w.alloc (.cells numCells 25) := by
  go_enter Tryd.func12, Tryd.ntmps12
  go_wp2
  go_ret
  exact ⟨rfl, rfl⟩
theorem good_et {w : World} (h : Good w) : w.cell? ⟨0, 0, none⟩ = some (.iface 166 (.agg #[.pointer (some ⟨4, 31, none⟩)])) := And.left h
theorem itoa18 : (Lib.itoa 18).toArray = #[49, 56] := by kernel_rfl
set_option maxHeartbeats 4000000 in
set_option maxRecDepth 100000 in
theorem error18_calls (w : World) (hG : Good w) : Calls Tryd.prog 13 #[.int .i64 18] w fun e w' => e = .returned (.string { data := #[101, 114, 114, 111, 114, 32, 49, 56] }) ∧ Below w.heap.size w w' := by
  have HG := Lib.hid hG
  clear hG
  go_enter Tryd.func13, Tryd.ntmps13
  go_wp2_with (fail)
  go_at_call 52
  (with_reducible refine (itoa_calls 18 (by decide) (by decide) _ HG.out).mono ?_)
  rintro e w3 ⟨rfl, hb⟩
  rw [itoa18]
  have HB := Lib.hid hb
  clear hb
  go_wp2
  go_ret
  exact ⟨rfl, HB.out⟩
theorem typeOf29 (v : Value) (w : World) : (ReflectliteType.typeOf #[.iface 29 v]).run Tryd.prog w = .ok (.iface 166 (.agg #[.pointer (some ⟨4, 29, none⟩)])) w := by kernel_rfl
theorem assignable29 (w : World) : (ReflectliteType.relation "AssignableTo" ReflectliteType.assignableTo #[.agg #[.pointer (some ⟨4, 29, none⟩)], .iface 166 (.agg #[.pointer (some ⟨4, 26, none⟩)])]).run Tryd.prog w = .ok (.bool false) w := by kernel_rfl
theorem noAs29 (v : Value) (xT : TypeId) (w : World) : (Instr.typeAssert (.iface 29 v) xT 171 true).run Tryd.prog w = .ok (.tuple #[.nilIface, .bool false]) w := run_typeAssert_lacksB Tryd.underlying171 (by kernel_rfl) (by kernel_rfl) v xT w
theorem isU29 (v : Value) (xT : TypeId) (w : World) : (Instr.typeAssert (.iface 29 v) xT 174 true).run Tryd.prog w = .ok (.tuple #[.iface 29 v, .bool true]) w := run_typeAssert_hasB Tryd.underlying174 (by kernel_rfl) v xT w
theorem methodUnwrap29 (v : Addr) (w : World) : (Go.method 351 29 (.pointer (some v)) "Unwrap").run Tryd.prog w = .ok (136, .pointer (some v)) w := by kernel_rfl
theorem unwrap29_calls (k : Nat) (v : Value) (w : World) (h : w.cell? ⟨k, 1, none⟩ = some v) : Calls Tryd.prog 136 #[.pointer (some ⟨k, 0, none⟩)] w fun e w' => e = .returned v ∧ w' = w := by
  go_enter Tryd.func136, Tryd.ntmps136
  go_wp2
  go_ret
  exact ⟨rfl, rfl⟩
set_option maxHeartbeats 4000000 in
set_option maxRecDepth 100000 in
theorem as_fault (k : Nat) (n : Int) (t a : Addr) (old : Value) (w : World) (hk : w.cell? ⟨k, 1, none⟩ = some (.iface 26 (.int .i64 n))) (ha : w.cell? a = some (.pointer (some t))) (ht : w.cell? t = some old) (hf : w.frozen? t = false) : Calls Tryd.prog 71 #[.iface 29 (.pointer (some ⟨k, 0, none⟩)), .iface 103 (.pointer (some t)), .agg #[.pointer (some ⟨4, 103, none⟩), .pointer (some a), .int .u64 150], .iface 166 (.agg #[.pointer (some ⟨4, 26, none⟩)])] w fun e w' => e = .returned (.bool true) ∧ ∃ W1, Below w.heap.size w W1 ∧ w' = W1.setCell t (.int .i64 n) := by
  have h80 := @run_callFunc_extern Tryd.prog 80 _ ReflectliteType.typeOf Tryd.func80 (by kernel_rfl) (by kernel_rfl) (by kernel_rfl) (by kernel_rfl)
  have h141 := @run_callFunc_extern Tryd.prog 141 _ (ReflectliteType.relation "AssignableTo" ReflectliteType.assignableTo) Tryd.func141 (by kernel_rfl) (by kernel_rfl) (by kernel_rfl) (by kernel_rfl)
  have h81 := @run_callFunc_extern Tryd.prog 81 _ (ReflectliteValue.method (ReflectliteValue.valueError "reflectlite.Value.Elem" 0) ReflectliteValue.elem) Tryd.func81 (by kernel_rfl) (by kernel_rfl) (by kernel_rfl) (by kernel_rfl)
  have h68 := @run_callFunc_extern Tryd.prog 68 _ (fun args => ReflectliteValue.unpack (args.getD 0 (.tuple #[]))) Tryd.func68 (by kernel_rfl) (by kernel_rfl) (by kernel_rfl) (by kernel_rfl)
  have h82 := @run_callFunc_extern Tryd.prog 82 _ ReflectliteValue.set Tryd.func82 (by kernel_rfl) (by kernel_rfl) (by kernel_rfl) (by kernel_rfl)
  have f1 := typeOf26
  have f1' := typeOf29
  have f2 := methodAssignableTo
  have f3 := assignable26
  have f3' := assignable29
  have f4 := valueOf26 n
  have f5 := noAs29
  have f6 := isU29
  have f7 := methodUnwrap29
  have hal := cell_lt ha
  have htl := cell_lt ht
  have B1 := below_alloc (Below.refl w.heap.size w) (.cells #[.pointer (some ⟨4, 103, none⟩), .pointer (some a), .int .u64 150] 149)
  have ck := (B1.cell (cell_lt hk)).trans hk
  have el := elemV103 a t (w.alloc (.cells #[.pointer (some ⟨4, 103, none⟩), .pointer (some a), .int .u64 150] 149)) (by rw [World.cell?_alloc_lt _ _ a hal]; exact ha)
  have st := set26 t ⟨w.heap.size + 1, 0, none⟩ n old ((w.alloc (.cells #[.pointer (some ⟨4, 103, none⟩), .pointer (some a), .int .u64 150] 149)).alloc (.cells #[.int .i64 n] 26))
    (by rw [World.cell?_alloc_at _ _ _ _ (by simp)]; rfl)
    (by rw [World.cell?_alloc_lt _ _ t (by simp; omega), World.cell?_alloc_lt _ _ t htl]; exact ht)
    (by rw [World.frozen?_alloc_old _ _ t (by simp; omega), World.frozen?_alloc_old _ _ t (Nat.ne_of_lt htl)]; exact hf)
  have HB1 := Lib.hid B1
  clear hk ha ht hf B1 hal htl
  go_enter Tryd.func71, Tryd.ntmps71
  go_wp2
  refine wp_loop_rounds 2 ?_
  rw [rounds_succ]
  go_wp2_with (go_at_call 136; (with_reducible refine (unwrap29_calls _ _ _ ck).mono ?_); rintro e w1 ⟨rfl, rfl⟩)
  rw [rounds_succ]
  go_wp2
  go_ret
  exact ⟨rfl, _, below_alloc HB1.out _, rfl⟩
set_option maxHeartbeats 4000000 in
set_option maxRecDepth 100000 in
theorem As_fault (k : Nat) (n : Int) (t : Addr) (old : Value) (w : World) (hg : w.cell? ⟨0, 0, none⟩ = some (.iface 166 (.agg #[.pointer (some ⟨4, 31, none⟩)]))) (hj : w.cell? ⟨k, 1, none⟩ = some (.iface 26 (.int .i64 n))) (ht : w.cell? t = some old) (hf : w.frozen? t = false) : Calls Tryd.prog 53 #[.iface 29 (.pointer (some ⟨k, 0, none⟩)), .iface 103 (.pointer (some t))] w fun e w' => e = .returned (.bool true) ∧ ∃ W1, Below w.heap.size w W1 ∧ w' = W1.setCell t (.int .i64 n) := by
  have h68 := @run_callFunc_extern Tryd.prog 68 _ (fun args => ReflectliteValue.unpack (args.getD 0 (.tuple #[]))) Tryd.func68 (by kernel_rfl) (by kernel_rfl) (by kernel_rfl) (by kernel_rfl)
  have h69 := @run_callFunc_extern Tryd.prog 69 _ (ReflectliteValue.methodAny (ReflectliteValue.valueError "reflectlite.Value.Type" 0) (fun t _ _ _ => ReflectliteType.toType t)) Tryd.func69 (by kernel_rfl) (by kernel_rfl) (by kernel_rfl) (by kernel_rfl)
  have h70 := @run_callFunc_extern Tryd.prog 70 _ (ReflectliteValue.method (ReflectliteValue.valueError "reflectlite.Value.IsNil" 0) ReflectliteValue.isNil) Tryd.func70 (by kernel_rfl) (by kernel_rfl) (by kernel_rfl) (by kernel_rfl)
  have h132 := @run_callFunc_extern Tryd.prog 132 _ (ReflectliteType.abiMethod fun t => do pure (.int .u8 (← Rtype.kind t))) Tryd.func132 (by kernel_rfl) (by kernel_rfl) (by kernel_rfl) (by kernel_rfl)
  have h143 := @run_callFunc_extern Tryd.prog 143 _ (ReflectliteType.method ReflectliteType.elem) Tryd.func143 (by kernel_rfl) (by kernel_rfl) (by kernel_rfl) (by kernel_rfl)
  have h144 := @run_callFunc_extern Tryd.prog 144 _ (ReflectliteType.relation "Implements" ReflectliteType.implements_) Tryd.func144 (by kernel_rfl) (by kernel_rfl) (by kernel_rfl) (by kernel_rfl)
  have f6 := valueOf103
  have f7 := type103
  have mK := methodKind
  have mE := methodElem
  have mI := methodImplements
  have k103 := kind103
  have k26 := kind26
  have e103 := elem103
  have i26 := implements26
  have n8 := isNil103 ⟨w.heap.size, 0, none⟩ t ((w.alloc (.cells #[.pointer (some t)] 103)).alloc (.cells #[.pointer (some ⟨4, 103, none⟩), .pointer (some ⟨w.heap.size, 0, none⟩), .int .u64 150] 149)) (by simp)
  have B2 := below_alloc (below_alloc (Below.refl w.heap.size w) (.cells #[.pointer (some t)] 103)) (.cells #[.pointer (some ⟨4, 103, none⟩), .pointer (some ⟨w.heap.size, 0, none⟩), .int .u64 150] 149)
  have hg2 := (B2.cell (cell_lt hg)).trans hg
  have HJ := Lib.hid ((B2.cell (cell_lt hj)).trans hj)
  have HT := Lib.hid ((B2.cell (cell_lt ht)).trans ht)
  have HF := Lib.hid ((B2.frozen (cell_lt ht)).trans hf)
  have HA := Lib.hid (show ((w.alloc (.cells #[.pointer (some t)] 103)).alloc (.cells #[.pointer (some ⟨4, 103, none⟩), .pointer (some ⟨w.heap.size, 0, none⟩), .int .u64 150] 149)).cell? ⟨w.heap.size, 0, none⟩ = some (.pointer (some t)) by simp)
  have HB2 := Lib.hid B2
  clear B2 hj ht hf hg
  go_enter Tryd.func53, Tryd.ntmps53
  go_wp2_with (go_at_call 71; (with_reducible refine (as_fault k n t _ old _ HJ.out HA.out HT.out HF.out).mono ?_); rintro e w1 ⟨rfl, W1, hb, rfl⟩; have HB3 := Lib.hid (below_step HB2.out hb); clear hb)
  go_ret
  exact ⟨rfl, _, HB3.out, rfl⟩
set_option maxHeartbeats 4000000 in
set_option maxRecDepth 100000 in
theorem code_fault (k : Nat) (n : Int) (w : World) (hg : w.cell? ⟨0, 0, none⟩ = some (.iface 166 (.agg #[.pointer (some ⟨4, 31, none⟩)]))) (hj : w.cell? ⟨k, 1, none⟩ = some (.iface 26 (.int .i64 n))) : Calls Tryd.prog 14 #[.iface 29 (.pointer (some ⟨k, 0, none⟩))] w fun e w' => e = .returned (.int .i64 n) ∧ Below w.heap.size w w' := by
  have B1 := below_alloc (Below.refl w.heap.size w) (.cells #[.int .i64 0] 26)
  have HG := Lib.hid ((B1.cell (cell_lt hg)).trans hg)
  have HJ := Lib.hid ((B1.cell (cell_lt hj)).trans hj)
  have HB1 := Lib.hid B1
  have hnew := heap_alloc_new w (.cells #[.int .i64 0] 26)
  have HN := Lib.hid hnew
  clear hg hj B1 hnew
  go_enter Tryd.func14, Tryd.ntmps14
  go_wp2_with (fail)
  go_at_call 53
  (with_reducible refine (As_fault k n ⟨w.heap.size, 0, none⟩ (.int .i64 0) _ HG.out HJ.out ((blk_cell HN.out 0).trans rfl) (blk_frozen HN.out 0)).mono ?_)
  rintro e w1 ⟨rfl, W1, hb, rfl⟩
  have hn1 := blk_set (blk_below HN.out hb) 0 (.int .i64 n)
  have c0 := (blk_cell hn1 0).trans (show _ = some (Value.int .i64 n) from rfl)
  have HB3 := Lib.hid ((below_step HB1.out hb).setCell (p := ⟨w.heap.size, 0, none⟩) (Nat.le_refl _) (.int .i64 n))
  clear hb hn1
  go_wp2
  go_ret
  exact ⟨rfl, HB3.out⟩
set_option maxHeartbeats 4000000 in
set_option maxRecDepth 100000 in
theorem names_walk (w : World) (hG : Good w) : Calls Tryd.prog 3 #[] w fun e w' => e = .returned (.bool true) ∧ Below w.heap.size w w' := by
  have B1 := below_alloc (Below.refl w.heap.size w) (.cells numCells 25)
  have HG := Lib.hid (hG.below B1)
  have HN := Lib.hid (heap_alloc_new w (.cells numCells 25))
  have HB := Lib.hid B1
  clear B1 hG
  go_enter Tryd.func3, Tryd.ntmps3
  go_wp2_with (fail)
  go_at_call 12
  (with_reducible refine (all_calls _).mono ?_)
  rintro e w3 ⟨rfl, rfl⟩
  generalize w.alloc (.cells numCells 25) = W at *
  go_wp2_with (fail)
  go_loopg [2] 59 (fun gk v2 wr => ∃ j : Nat, v2 = .int .i64 (j : Int) ∧ j ≤ 59 ∧ 59 - j ≤ gk ∧ Hid (Good wr) ∧ Hid (Below w.heap.size w wr) ∧ Hid (wr.heap[w.heap.size]? = some (.cells numCells 25 (0, 0))))
  case atStart => exact ⟨0, rfl, by omega, by omega, HG.out, HB.out, HN.out⟩
  case round =>
    obtain ⟨j, rfl, hj, hk, HG1, HB1, HN1⟩ := hrel
    clear HG HB HN
    by_cases hlt : j < 59
    · obtain ⟨x, e0, e1⟩ := num_at j hlt
      have c0 : wr.cell? ((⟨w.heap.size, 0, none⟩ : Addr).add (j * 2)) = some (.int .i64 x) := by rw [add0_]; exact (blk_cell HN1.out (j * 2)).trans e0
      have c1 : wr.cell? ⟨((⟨w.heap.size, 0, none⟩ : Addr).add (j * 2)).block, ((⟨w.heap.size, 0, none⟩ : Addr).add (j * 2)).off + 1, none⟩ = some (.int .i64 x) := by rw [add0_]; exact (blk_cell HN1.out (j * 2 + 1)).trans e1
      have cj : (j : Int) < 59 := by omega
      have cj0 : (0 : Int) ≤ (j : Int) := by omega
      clear e0 e1
      generalize (⟨w.heap.size, 0, none⟩ : Addr) = ad at *
      go_wp2_with (fail)
      go_quiet (fail)
      rename_i nq
      go_wp2
      go_roundg (59 - (j + 1))
      case measure => omega
      case rel => exact ⟨j + 1, by simp, by omega, by omega, Good.below HG1.out (pw_below_drewN (Below.refl _ _) nq), pw_below_drewN HB1.out nq, blk_below HN1.out (pw_below_drewN (Below.refl _ _) nq)⟩
    · obtain rfl : j = 59 := by omega
      clear hlt hj hk
      go_wp2_with (fail)
      go_at_call 13
      (with_reducible refine (error18_calls _ HG1.out).mono ?_)
      rintro e w4 ⟨rfl, hb⟩
      have HG4 := Lib.hid (HG1.out.below hb)
      have HB4 := Lib.hid (below_step HB1.out hb)
      clear hb
      go_wp2_with (fail)
      go_at_call 14
      (with_reducible refine (code_nil _).mono ?_)
      rintro e w5 ⟨rfl, rfl⟩
      have B2 := below_alloc (Below.refl w5.heap.size w5) (.cells #[.int .i64 3, .iface 26 (.int .i64 11)] 33)
      have HG5 := Lib.hid (HG4.out.below B2)
      have HB5 := Lib.hid (below_step HB4.out B2)
      have HN5 := Lib.hid (heap_alloc_new w5 (.cells #[.int .i64 3, .iface 26 (.int .i64 11)] 33))
      clear B2
      go_wp2_with (fail)
      go_at_call 14
      (with_reducible refine (code_fault _ 11 _ (good_et HG5.out) ((blk_cell HN5.out 1).trans rfl)).mono ?_)
      rintro e w6 ⟨rfl, hb⟩
      have HB6 := Lib.hid (below_step HB5.out hb)
      clear hb
      go_wp2
      go_ret
      exact ⟨rfl, HB6.out⟩
end Go.Proofs.YtphaaagcdjpceaaDoor
