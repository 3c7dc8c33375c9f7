import Derived.Test.YtphaaagcdjpceaaDoorShelf
import Derived.Test.YtphaaagcdjpceaaDoorWMore
import Derived.Test.YtphaaagcdjpceaaDoorWEqStruct
import Derived.WalkKit
import Derived.WalkSpells
import Derived.WalkLawsBesides
import Derived.ProofKit
import Derived.OpenShut
import Derived.ChangeOld
import Derived.Below
import Derived.Lib.Hide
import Derived.LaidEql
import Derived.Stop.Asserts
import Derived.RowKitTokens
import Derived.Deep.LoopGhost
import Derived.Deep.DeepCutAuto
import Derived.Deep.CutBlock
import Derived.Outline
import Derived.WalkSmall
import Derived.Lib.ItoaLen
namespace Go.Proofs.YtphaaagcdjpceaaDoor
open Go.RowKit Go.Extern.Stop Go.Stop Go.Extern Go.Proofs.YtphaaagcdjpceaaDoorW.PrintWords Go.Proofs.YtphaaagcdjpceaaDoorW.PrintLast Go.Proofs.YtphaaagcdjpceaaDoorW.PrintMore
set_option linter.unusedVariables false
theorem new_calls (s : Array UInt8) (w : World) : Calls Tryd.prog 73 #[.string ⟨s⟩] w fun e w' => e = .returned (.iface 182 (.pointer (some ⟨w.heap.size, 0, none⟩))) ∧ w' = w.alloc (.cells #[.string ⟨s⟩] 184) := by
  go_enter Tryd.func73, Tryd.ntmps73
  go_wp2
  go_ret
  exact ⟨rfl, rfl⟩
theorem mk2 (w : World) : (Instr.makeSlice 177 (.int .i64 0) (.int .i64 2)).run Tryd.prog w = .ok (.slice (some ⟨w.heap.size, 0, none⟩) 0 2) (w.alloc (.cells #[.nilIface, .nilIface] 31)) := by kernel_rfl
attribute [local go_sem] mk2
theorem heap_old (W : World) (o : Obj) (i : Nat) (h : i < W.heap.size) : (W.alloc o).heap[i]? = W.heap[i]? := Below.heap_alloc W o i h
theorem heap_at (W : World) (o : Obj) (H : Nat) (h : W.heap.size = H) : (W.alloc o).heap[H]? = some o := by
  subst h
  exact heap_alloc_new W o
set_option maxHeartbeats 4000000 in
set_option maxRecDepth 100000 in
theorem join_calls (ta tb : TypeId) (va vb : Value) (g : Nat) (w : World) (h0 : w.cell? ⟨g, 0, none⟩ = some (.iface ta va)) (h1 : w.cell? ⟨g, 1, none⟩ = some (.iface tb vb)) (hg : g < w.heap.size) : Calls Tryd.prog 72 #[.slice (some ⟨g, 0, none⟩) 2 2] w fun e w' => ∃ k m, e = .returned (.iface 179 (.pointer (some ⟨k, 0, none⟩))) ∧ w'.heap[k]? = some (.cells #[.slice (some ⟨m, 0, none⟩) 2 2] 181 (0, 0)) ∧ w'.heap[m]? = some (.cells #[.iface ta va, .iface tb vb] 31 (0, 0)) ∧ Below w.heap.size w w' := by
  go_enter Tryd.func72, Tryd.ntmps72
  go_wp2
  refine wp_loop_rounds 3 ?_
  rw [rounds_succ]
  go_wp2
  rw [rounds_succ]
  go_wp2
  rw [rounds_succ]
  go_upto_region 11 with (fail)
  have k0 : ((w.alloc (.cells #[.nilIface, .nilIface] 31)).alloc (.cells #[.slice (some ⟨w.heap.size, 0, none⟩) 0 2] 181)).cell? ⟨g, 0, none⟩ = some (.iface ta va) := by
    rw [World.cell?_alloc_lt _ _ ⟨g, 0, none⟩ (by simp; omega), World.cell?_alloc_lt _ _ ⟨g, 0, none⟩ hg]; exact h0
  have k1 : ((w.alloc (.cells #[.nilIface, .nilIface] 31)).alloc (.cells #[.slice (some ⟨w.heap.size, 0, none⟩) 0 2] 181)).cell? ⟨g, 1, none⟩ = some (.iface tb vb) := by
    rw [World.cell?_alloc_lt _ _ ⟨g, 1, none⟩ (by simp; omega), World.cell?_alloc_lt _ _ ⟨g, 1, none⟩ hg]; exact h1
  go_wp2
  refine wp_loop_rounds 3 ?_
  rw [rounds_succ]
  go_wp2
  have k2 : (((w.alloc (.cells #[.iface ta va, .nilIface] 31)).alloc (.cells #[.slice (some ⟨w.heap.size, 0, none⟩) 1 2] 181)).alloc (.cells #[.iface ta va] 31)).cell? ⟨g, 1, none⟩ = some (.iface tb vb) := by
    rw [World.cell?_alloc_lt _ _ ⟨g, 1, none⟩ (by simp; omega), World.cell?_alloc_lt _ _ ⟨g, 1, none⟩ (by simp; omega), World.cell?_alloc_lt _ _ ⟨g, 1, none⟩ hg]; exact h1
  clear k0 k1
  rw [rounds_succ]
  go_wp2
  rw [rounds_succ]
  go_wp2
  go_ret
  refine ⟨w.heap.size + 1, w.heap.size, rfl, ?_, ?_, ?_⟩
  · rw [heap_old _ _ _ (by simp <;> omega), heap_old _ _ _ (by simp <;> omega)]; exact heap_at _ _ _ (by simp)
  · rw [heap_old _ _ _ (by simp <;> omega), heap_old _ _ _ (by simp <;> omega), heap_old _ _ _ (by simp <;> omega)]; exact heap_at _ _ _ rfl
  · repeat (first | exact Below.refl _ _ | apply below_alloc)
end Go.Proofs.YtphaaagcdjpceaaDoor
namespace Go.Proofs.YtphaaagcdjpceaaDoor
open Go.RowKit Go.Extern.Stop Go.Stop Go.Extern Go.Proofs.YtphaaagcdjpceaaDoorW.PrintWords Go.Proofs.YtphaaagcdjpceaaDoorW.PrintLast Go.Proofs.YtphaaagcdjpceaaDoorW.PrintMore
set_option linter.unusedVariables false
theorem valueOf103 (t : Addr) (w : World) : (ReflectliteValue.unpack (.iface 103 (.pointer (some t)))).run Tryd.prog w
    = .ok (.agg #[.pointer (some ⟨4, 103, none⟩), .pointer (some ⟨w.heap.size, 0, none⟩), .int .u64 150]) (w.alloc (.cells #[.pointer (some t)] 103)) := by kernel_rfl
theorem type103 (a : Addr) (w : World) : (ReflectliteValue.methodAny (ReflectliteValue.valueError "reflectlite.Value.Type" 0) (fun t _ _ _ => ReflectliteType.toType t) #[.agg #[.pointer (some ⟨4, 103, none⟩), .pointer (some a), .int .u64 150]]).run Tryd.prog w
    = .ok (.iface 166 (.agg #[.pointer (some ⟨4, 103, none⟩)])) w := by kernel_rfl
theorem methodKind (h : Value) (w : World) : (Go.method 351 166 (.agg #[h]) "Kind").run Tryd.prog w = .ok (132, h) w := by kernel_rfl
theorem kind103 (w : World) : ((ReflectliteType.abiMethod fun t => (fun a : Nat => Value.int IntKind.u8 (a : Int)) <$> Rtype.kind t) #[.pointer (some ⟨4, 103, none⟩)]).run Tryd.prog w = .ok (.int .u8 22) w := by kernel_rfl
theorem kind26 (w : World) : ((ReflectliteType.abiMethod fun t => (fun a : Nat => Value.int IntKind.u8 (a : Int)) <$> Rtype.kind t) #[.pointer (some ⟨4, 26, none⟩)]).run Tryd.prog w = .ok (.int .u8 2) w := by kernel_rfl
theorem rlm (z : Sem Value) (f : TypeId → Addr → Nat → Nat → Sem Value) (v : Value) :
    ReflectliteValue.method z f #[v] = (do match ← ReflectliteValue.parts v with | none => z | some (t, a, fl) => f t a fl (fl % 32)) := rfl
theorem parts103 (a : Addr) (w : World) : (ReflectliteValue.parts (.agg #[.pointer (some ⟨4, 103, none⟩), .pointer (some a), .int .u64 150])).run Tryd.prog w = .ok (some (103, a, 150)) w := by kernel_rfl
theorem isNil103 (a p : Addr) (W : World) (ha : W.cell? a = some (.pointer (some p))) :
    (ReflectliteValue.method (ReflectliteValue.valueError "reflectlite.Value.IsNil" 0) ReflectliteValue.isNil #[.agg #[.pointer (some ⟨4, 103, none⟩), .pointer (some a), .int .u64 150]]).run Tryd.prog W = .ok (.bool false) W := by
  rw [rlm]
  simp only [Sem.run_bind, parts103, Result.andThen]
  simp [ReflectliteValue.isNil, loadVar, isAgg, underlying, Tryd.underlying103, ha, Result.andThen]
theorem methodElem (h : Value) (w : World) : (Go.method 351 166 (.agg #[h]) "Elem").run Tryd.prog w = .ok (143, .agg #[h]) w := by kernel_rfl
theorem methodImplements (h : Value) (w : World) : (Go.method 351 166 (.agg #[h]) "Implements").run Tryd.prog w = .ok (144, .agg #[h]) w := by kernel_rfl
theorem methodAssignableTo (h : Value) (w : World) : (Go.method 351 166 (.agg #[h]) "AssignableTo").run Tryd.prog w = .ok (141, .agg #[h]) w := by kernel_rfl
theorem elem103 (w : World) : (ReflectliteType.method ReflectliteType.elem #[.agg #[.pointer (some ⟨4, 103, none⟩)]]).run Tryd.prog w = .ok (.iface 166 (.agg #[.pointer (some ⟨4, 26, none⟩)])) w := by kernel_rfl
theorem implements26 (w : World) : (ReflectliteType.relation "Implements" ReflectliteType.implements_ #[.agg #[.pointer (some ⟨4, 26, none⟩)], .iface 166 (.agg #[.pointer (some ⟨4, 31, none⟩)])]).run Tryd.prog w = .ok (.bool true) w := by kernel_rfl
theorem typeOf26 (v : Value) (w : World) : (ReflectliteType.typeOf #[.iface 26 v]).run Tryd.prog w = .ok (.iface 166 (.agg #[.pointer (some ⟨4, 26, none⟩)])) w := by kernel_rfl
theorem typeOf179 (v : Value) (w : World) : (ReflectliteType.typeOf #[.iface 179 v]).run Tryd.prog w = .ok (.iface 166 (.agg #[.pointer (some ⟨4, 179, none⟩)])) w := by kernel_rfl
theorem typeOf182 (v : Value) (w : World) : (ReflectliteType.typeOf #[.iface 182 v]).run Tryd.prog w = .ok (.iface 166 (.agg #[.pointer (some ⟨4, 182, none⟩)])) w := by kernel_rfl
theorem assignable26 (w : World) : (ReflectliteType.relation "AssignableTo" ReflectliteType.assignableTo #[.agg #[.pointer (some ⟨4, 26, none⟩)], .iface 166 (.agg #[.pointer (some ⟨4, 26, none⟩)])]).run Tryd.prog w = .ok (.bool true) w := by kernel_rfl
theorem assignable179 (w : World) : (ReflectliteType.relation "AssignableTo" ReflectliteType.assignableTo #[.agg #[.pointer (some ⟨4, 179, none⟩)], .iface 166 (.agg #[.pointer (some ⟨4, 26, none⟩)])]).run Tryd.prog w = .ok (.bool false) w := by kernel_rfl
theorem assignable182 (w : World) : (ReflectliteType.relation "AssignableTo" ReflectliteType.assignableTo #[.agg #[.pointer (some ⟨4, 182, none⟩)], .iface 166 (.agg #[.pointer (some ⟨4, 26, none⟩)])]).run Tryd.prog w = .ok (.bool false) w := by kernel_rfl
theorem valueOf26 (n : Int) (w : World) : (ReflectliteValue.unpack (.iface 26 (.int .i64 n))).run Tryd.prog w
    = .ok (.agg #[.pointer (some ⟨4, 26, none⟩), .pointer (some ⟨w.heap.size, 0, none⟩), .int .u64 130]) (w.alloc (.cells #[.int .i64 n] 26)) := by kernel_rfl
theorem elemOf103 (w : World) : (Rtype.elem? 103).run Tryd.prog w = .ok (some 26) w := by kernel_rfl
theorem mk26 (p : Addr) (w : World) : (ReflectliteValue.mk 26 p ReflectliteValue.flagAddr).run Tryd.prog w = .ok (.agg #[.pointer (some ⟨4, 26, none⟩), .pointer (some p), .int .u64 386]) w := by kernel_rfl
theorem elemV103 (a p : Addr) (W : World) (ha : W.cell? a = some (.pointer (some p))) :
    (ReflectliteValue.method (ReflectliteValue.valueError "reflectlite.Value.Elem" 0) ReflectliteValue.elem #[.agg #[.pointer (some ⟨4, 103, none⟩), .pointer (some a), .int .u64 150]]).run Tryd.prog W
      = .ok (.agg #[.pointer (some ⟨4, 26, none⟩), .pointer (some p), .int .u64 386]) W := by
  rw [rlm]
  simp only [Sem.run_bind, parts103, Result.andThen]
  simp [ReflectliteValue.elem, loadVar, isAgg, underlying, Tryd.underlying103, ha, Result.andThen, elemOf103, mk26]
theorem rls (v x : Value) : ReflectliteValue.set #[v, x] = (do
    let (some (dst, a, fl), some (src, b, _)) := (← ReflectliteValue.parts v, ← ReflectliteValue.parts x)
      | unsupported (.noEntry "extern/(internal/reflectlite.Value).Set.zeroValue")
    if fl / ReflectliteValue.flagAddr % 2 == 0 then unsupported (.noEntry "extern/(internal/reflectlite.Value).Set.unaddressable")
    let val ← loadVar src b
    if ← Rtype.directlyAssignable dst src then storeVar dst a val
    else if ← Rtype.implements dst src then
      if (← Rtype.kind src) == 20 then
        match val with
        | .nilIface => unsupported (.noEntry "extern/reflectlite: a nil value of one interface type handed on as a value of another")
        | _ => storeVar dst a val
      else storeVar dst a (.iface src val)
    else panicString ("reflectlite.Set: value of type " ++ (← Rtype.spelt src) ++ " is not assignable to type " ++ (← Rtype.spelt dst))
    pure (.tuple #[])) := rfl
theorem parts26a (a : Addr) (w : World) : (ReflectliteValue.parts (.agg #[.pointer (some ⟨4, 26, none⟩), .pointer (some a), .int .u64 386])).run Tryd.prog w = .ok (some (26, a, 386)) w := by kernel_rfl
theorem parts26 (a : Addr) (w : World) : (ReflectliteValue.parts (.agg #[.pointer (some ⟨4, 26, none⟩), .pointer (some a), .int .u64 130])).run Tryd.prog w = .ok (some (26, a, 130)) w := by kernel_rfl
theorem direct26 (w : World) : (Rtype.directlyAssignable 26 26).run Tryd.prog w = .ok true w := by kernel_rfl
theorem set26 (ta b : Addr) (n : Int) (old : Value) (W : World) (hb : W.cell? b = some (.int .i64 n)) (ht : W.cell? ta = some old) (hf : W.frozen? ta = false) :
    (ReflectliteValue.set #[.agg #[.pointer (some ⟨4, 26, none⟩), .pointer (some ta), .int .u64 386], .agg #[.pointer (some ⟨4, 26, none⟩), .pointer (some b), .int .u64 130]]).run Tryd.prog W
      = .ok (.tuple #[]) (W.setCell ta (.int .i64 n)) := by
  rw [rls]
  simp only [Sem.run_bind, parts26a, parts26, Result.andThen]
  simp [ReflectliteValue.flagAddr, loadVar, isAgg, underlying, Tryd.underlying26, hb, Result.andThen, direct26, storeVar, Value.cells, storeCells, Addr.add]
  rw [run_store Tryd.prog W ta _ _ (by rfl)]
  simp [ht, hf]
theorem noAs182 (v : Value) (xT : TypeId) (w : World) : (Instr.typeAssert (.iface 182 v) xT 171 true).run Tryd.prog w = .ok (.tuple #[.nilIface, .bool false]) w := run_typeAssert_lacksB Tryd.underlying171 (by kernel_rfl) (by kernel_rfl) v xT w
theorem noAs179 (v : Value) (xT : TypeId) (w : World) : (Instr.typeAssert (.iface 179 v) xT 171 true).run Tryd.prog w = .ok (.tuple #[.nilIface, .bool false]) w := run_typeAssert_lacksB Tryd.underlying171 (by kernel_rfl) (by kernel_rfl) v xT w
theorem noU182 (v : Value) (xT : TypeId) (w : World) : (Instr.typeAssert (.iface 182 v) xT 174 true).run Tryd.prog w = .ok (.tuple #[.nilIface, .bool false]) w := run_typeAssert_lacksB Tryd.underlying174 (by kernel_rfl) (by kernel_rfl) v xT w
theorem noU179 (v : Value) (xT : TypeId) (w : World) : (Instr.typeAssert (.iface 179 v) xT 174 true).run Tryd.prog w = .ok (.tuple #[.nilIface, .bool false]) w := run_typeAssert_lacksB Tryd.underlying174 (by kernel_rfl) (by kernel_rfl) v xT w
theorem noL182 (v : Value) (xT : TypeId) (w : World) : (Instr.typeAssert (.iface 182 v) xT 176 true).run Tryd.prog w = .ok (.tuple #[.nilIface, .bool false]) w := run_typeAssert_lacksB Tryd.underlying176 (by kernel_rfl) (by kernel_rfl) v xT w
theorem isL179 (v : Value) (xT : TypeId) (w : World) : (Instr.typeAssert (.iface 179 v) xT 176 true).run Tryd.prog w = .ok (.tuple #[.iface 179 v, .bool true]) w := run_typeAssert_hasB Tryd.underlying176 (by kernel_rfl) v xT w
theorem methodUnwrap (v : Addr) (w : World) : (Go.method 351 179 (.pointer (some v)) "Unwrap").run Tryd.prog w = .ok (152, .pointer (some v)) w := by kernel_rfl
end Go.Proofs.YtphaaagcdjpceaaDoor
namespace Go.Proofs.YtphaaagcdjpceaaDoor
open Go.RowKit Go.Extern.Stop Go.Stop Go.Extern Go.Proofs.YtphaaagcdjpceaaDoorW.PrintWords Go.Proofs.YtphaaagcdjpceaaDoorW.PrintLast Go.Proofs.YtphaaagcdjpceaaDoorW.PrintMore
set_option linter.unusedVariables false
set_option maxHeartbeats 4000000 in
set_option maxRecDepth 100000 in
theorem as_str (s t a : Addr) (w : World) : Calls Tryd.prog 71 #[.iface 182 (.pointer (some s)), .iface 103 (.pointer (some t)), .agg #[.pointer (some ⟨4, 103, none⟩), .pointer (some a), .int .u64 150], .iface 166 (.agg #[.pointer (some ⟨4, 26, none⟩)])] w fun e w' => e = .returned (.bool false) ∧ w' = w.alloc (.cells #[.pointer (some ⟨4, 103, none⟩), .pointer (some a), .int .u64 150] 149) := by
  have h80 := @run_callFunc_extern Tryd.prog 80 _ ReflectliteType.typeOf Tryd.func80 (by kernel_rfl) (by kernel_rfl) (by kernel_rfl) (by kernel_rfl)
  have h141 := @run_callFunc_extern Tryd.prog 141 _ (ReflectliteType.relation "AssignableTo" ReflectliteType.assignableTo) Tryd.func141 (by kernel_rfl) (by kernel_rfl) (by kernel_rfl) (by kernel_rfl)
  have f1 := typeOf182
  have f2 := methodAssignableTo
  have f3 := assignable182
  have f4 := noAs182
  have f5 := noU182
  have f6 := noL182
  go_enter Tryd.func71, Tryd.ntmps71
  go_wp2
  refine wp_loop_rounds 1 ?_
  rw [rounds_succ]
  go_wp2
  go_ret
  exact ⟨rfl, rfl⟩
set_option maxHeartbeats 4000000 in
set_option maxRecDepth 100000 in
theorem as_num (n : Int) (t a : Addr) (old : Value) (w : World) (ha : w.cell? a = some (.pointer (some t))) (ht : w.cell? t = some old) (hf : w.frozen? t = false) : Calls Tryd.prog 71 #[.iface 26 (.int .i64 n), .iface 103 (.pointer (some t)), .agg #[.pointer (some ⟨4, 103, none⟩), .pointer (some a), .int .u64 150], .iface 166 (.agg #[.pointer (some ⟨4, 26, none⟩)])] w fun e w' => e = .returned (.bool true) ∧ w' = ((w.alloc (.cells #[.pointer (some ⟨4, 103, none⟩), .pointer (some a), .int .u64 150] 149)).alloc (.cells #[.int .i64 n] 26)).setCell t (.int .i64 n) := by
  have h80 := @run_callFunc_extern Tryd.prog 80 _ ReflectliteType.typeOf Tryd.func80 (by kernel_rfl) (by kernel_rfl) (by kernel_rfl) (by kernel_rfl)
  have h141 := @run_callFunc_extern Tryd.prog 141 _ (ReflectliteType.relation "AssignableTo" ReflectliteType.assignableTo) Tryd.func141 (by kernel_rfl) (by kernel_rfl) (by kernel_rfl) (by kernel_rfl)
  have h81 := @run_callFunc_extern Tryd.prog 81 _ (ReflectliteValue.method (ReflectliteValue.valueError "reflectlite.Value.Elem" 0) ReflectliteValue.elem) Tryd.func81 (by kernel_rfl) (by kernel_rfl) (by kernel_rfl) (by kernel_rfl)
  have h68 := @run_callFunc_extern Tryd.prog 68 _ (fun args => ReflectliteValue.unpack (args.getD 0 (.tuple #[]))) Tryd.func68 (by kernel_rfl) (by kernel_rfl) (by kernel_rfl) (by kernel_rfl)
  have h82 := @run_callFunc_extern Tryd.prog 82 _ ReflectliteValue.set Tryd.func82 (by kernel_rfl) (by kernel_rfl) (by kernel_rfl) (by kernel_rfl)
  have f1 := typeOf26
  have f2 := methodAssignableTo
  have f3 := assignable26
  have f4 := valueOf26 n
  have hal : a.block < w.heap.size := by
    rcases Nat.lt_or_ge a.block w.heap.size with h | h
    · exact h
    · simp [World.cell?, Array.getElem?_eq_none h] at ha
  have htl : t.block < w.heap.size := by
    rcases Nat.lt_or_ge t.block w.heap.size with h | h
    · exact h
    · simp [World.cell?, Array.getElem?_eq_none h] at ht
  have el := elemV103 a t (w.alloc (.cells #[.pointer (some ⟨4, 103, none⟩), .pointer (some a), .int .u64 150] 149)) (by rw [World.cell?_alloc_lt _ _ a hal]; exact ha)
  have st := set26 t ⟨w.heap.size + 1, 0, none⟩ n old ((w.alloc (.cells #[.pointer (some ⟨4, 103, none⟩), .pointer (some a), .int .u64 150] 149)).alloc (.cells #[.int .i64 n] 26))
    (by rw [World.cell?_alloc_at _ _ _ _ (by simp)]; rfl)
    (by rw [World.cell?_alloc_lt _ _ t (by simp; omega), World.cell?_alloc_lt _ _ t htl]; exact ht)
    (by rw [World.frozen?_alloc_old _ _ t (by simp; omega), World.frozen?_alloc_old _ _ t (Nat.ne_of_lt htl)]; exact hf)
  go_enter Tryd.func71, Tryd.ntmps71
  go_wp2
  refine wp_loop_rounds 1 ?_
  rw [rounds_succ]
  go_wp2
  go_ret
  exact ⟨rfl, rfl⟩
theorem unwrap_calls (k : Addr) (v : Value) (w : World) (h : w.cell? k = some v) : Calls Tryd.prog 152 #[.pointer (some k)] w fun e w' => e = .returned v ∧ w' = w := by
  go_enter Tryd.func152, Tryd.ntmps152
  go_wp2
  go_ret
  exact ⟨rfl, rfl⟩
end Go.Proofs.YtphaaagcdjpceaaDoor
namespace Go.Proofs.YtphaaagcdjpceaaDoor
open Go.RowKit Go.Extern.Stop Go.Stop Go.Extern Go.Proofs.YtphaaagcdjpceaaDoorW.PrintWords Go.Proofs.YtphaaagcdjpceaaDoorW.PrintLast Go.Proofs.YtphaaagcdjpceaaDoorW.PrintMore
set_option linter.unusedVariables false
def Joined (W : World) (k : Nat) (n : Int) : Prop := ∃ m s, W.heap[k]? = some (.cells #[.slice (some ⟨m, 0, none⟩) 2 2] 181 (0, 0)) ∧ W.heap[m]? = some (.cells #[.iface 182 (.pointer (some s)), .iface 26 (.int .i64 n)] 31 (0, 0))
theorem Joined.below {W W1 : World} {k : Nat} {n : Int} (h : Joined W k n) (hb : Below W.heap.size W W1) : Joined W1 k n := by
  obtain ⟨m, s, h1, h2⟩ := h
  exact ⟨m, s, blk_below h1 hb, blk_below h2 hb⟩
theorem cell_lt {W : World} {t : Addr} {v : Value} (h : W.cell? t = some v) : t.block < W.heap.size := by
  rcases Nat.lt_or_ge t.block W.heap.size with h' | h'
  · exact h'
  · simp [World.cell?, Array.getElem?_eq_none h'] at h
set_option maxHeartbeats 4000000 in
set_option maxRecDepth 100000 in
theorem as_join (k : Nat) (n : Int) (t a : Addr) (old : Value) (w : World) (hj : Joined w k n) (ha : w.cell? a = some (.pointer (some t))) (ht : w.cell? t = some old) (hf : w.frozen? t = false) : Calls Tryd.prog 71 #[.iface 179 (.pointer (some ⟨k, 0, none⟩)), .iface 103 (.pointer (some t)), .agg #[.pointer (some ⟨4, 103, none⟩), .pointer (some a), .int .u64 150], .iface 166 (.agg #[.pointer (some ⟨4, 26, none⟩)])] w fun e w' => e = .returned (.bool true) ∧ ∃ W1, Below w.heap.size w W1 ∧ w' = W1.setCell t (.int .i64 n) := by
  obtain ⟨m, s, hk, hm⟩ := hj
  have h80 := @run_callFunc_extern Tryd.prog 80 _ ReflectliteType.typeOf Tryd.func80 (by kernel_rfl) (by kernel_rfl) (by kernel_rfl) (by kernel_rfl)
  have h141 := @run_callFunc_extern Tryd.prog 141 _ (ReflectliteType.relation "AssignableTo" ReflectliteType.assignableTo) Tryd.func141 (by kernel_rfl) (by kernel_rfl) (by kernel_rfl) (by kernel_rfl)
  have f1 := typeOf179
  have f2 := methodAssignableTo
  have f3 := assignable179
  have f4 := noAs179
  have f5 := noU179
  have f6 := isL179
  have f7 := methodUnwrap
  have B1 := below_alloc (Below.refl w.heap.size w) (.cells #[.pointer (some ⟨4, 103, none⟩), .pointer (some a), .int .u64 150] 149)
  have hk1 := blk_below hk B1
  have hm1 := blk_below hm B1
  have ck := (blk_cell hk1 0).trans (show _ = some (Value.slice (some ⟨m, 0, none⟩) 2 2) from rfl)
  have c0 := (blk_cell hm1 0).trans (show _ = some (Value.iface 182 (.pointer (some s))) from rfl)
  have c1 := (blk_cell hm1 1).trans (show _ = some (Value.iface 26 (.int .i64 n)) from rfl)
  have B2 := below_alloc B1 (.cells #[.pointer (some ⟨4, 103, none⟩), .pointer (some a), .int .u64 150] 149)
  have hm2 := blk_below hm B2
  have d1 := (blk_cell hm2 1).trans (show _ = some (Value.iface 26 (.int .i64 n)) from rfl)
  have ha2 := (B2.cell (cell_lt ha)).trans ha
  have ht2 := (B2.cell (cell_lt ht)).trans ht
  have hf2 := (B2.frozen (cell_lt ht)).trans hf
  have HA := Lib.hid ha2; have HT := Lib.hid ht2; have HF := Lib.hid hf2
  have HB2 := Lib.hid B2
  clear hk hm ha ht hf B1 B2 hk1 hm1 hm2 ha2 ht2 hf2
  go_enter Tryd.func71, Tryd.ntmps71
  go_wp2
  refine wp_loop_rounds 1 ?_
  rw [rounds_succ]
  go_wp2_with (go_at_call 152; (with_reducible refine (unwrap_calls _ _ _ ck).mono ?_); rintro e w1 ⟨rfl, rfl⟩)
  refine wp_loop_rounds 3 ?_
  rw [rounds_succ]
  go_wp2_with (go_at_call 71; (with_reducible refine (as_str s t a _).mono ?_); rintro e w1 ⟨rfl, rfl⟩)
  rw [rounds_succ]
  go_wp2_with (go_at_call 71; (with_reducible refine (as_num n t a old _ HA.out HT.out HF.out).mono ?_); rintro e w1 ⟨rfl, rfl⟩)
  go_ret
  exact ⟨rfl, _, below_alloc (below_alloc HB2.out _) _, rfl⟩
set_option maxHeartbeats 4000000 in
set_option maxRecDepth 100000 in
theorem As_join (k : Nat) (n : Int) (t : Addr) (old : Value) (w : World) (hg : w.cell? ⟨0, 0, none⟩ = some (.iface 166 (.agg #[.pointer (some ⟨4, 31, none⟩)]))) (hj : Joined w k n) (ht : w.cell? t = some old) (hf : w.frozen? t = false) : Calls Tryd.prog 53 #[.iface 179 (.pointer (some ⟨k, 0, none⟩)), .iface 103 (.pointer (some t))] w fun e w' => e = .returned (.bool true) ∧ ∃ W1, Below w.heap.size w W1 ∧ w' = W1.setCell t (.int .i64 n) := by
  have h68 := @run_callFunc_extern Tryd.prog 68 _ (fun args => ReflectliteValue.unpack (args.getD 0 (.tuple #[]))) Tryd.func68 (by kernel_rfl) (by kernel_rfl) (by kernel_rfl) (by kernel_rfl)
  have h69 := @run_callFunc_extern Tryd.prog 69 _ (ReflectliteValue.methodAny (ReflectliteValue.valueError "reflectlite.Value.Type" 0) (fun t _ _ _ => ReflectliteType.toType t)) Tryd.func69 (by kernel_rfl) (by kernel_rfl) (by kernel_rfl) (by kernel_rfl)
  have h70 := @run_callFunc_extern Tryd.prog 70 _ (ReflectliteValue.method (ReflectliteValue.valueError "reflectlite.Value.IsNil" 0) ReflectliteValue.isNil) Tryd.func70 (by kernel_rfl) (by kernel_rfl) (by kernel_rfl) (by kernel_rfl)
  have h132 := @run_callFunc_extern Tryd.prog 132 _ (ReflectliteType.abiMethod fun t => do pure (.int .u8 (← Rtype.kind t))) Tryd.func132 (by kernel_rfl) (by kernel_rfl) (by kernel_rfl) (by kernel_rfl)
  have h143 := @run_callFunc_extern Tryd.prog 143 _ (ReflectliteType.method ReflectliteType.elem) Tryd.func143 (by kernel_rfl) (by kernel_rfl) (by kernel_rfl) (by kernel_rfl)
  have h144 := @run_callFunc_extern Tryd.prog 144 _ (ReflectliteType.relation "Implements" ReflectliteType.implements_) Tryd.func144 (by kernel_rfl) (by kernel_rfl) (by kernel_rfl) (by kernel_rfl)
  have f6 := valueOf103
  have f7 := type103
  have mK := methodKind
  have mE := methodElem
  have mI := methodImplements
  have k103 := kind103
  have k26 := kind26
  have e103 := elem103
  have i26 := implements26
  have n8 := isNil103 ⟨w.heap.size, 0, none⟩ t ((w.alloc (.cells #[.pointer (some t)] 103)).alloc (.cells #[.pointer (some ⟨4, 103, none⟩), .pointer (some ⟨w.heap.size, 0, none⟩), .int .u64 150] 149)) (by simp)
  have B2 := below_alloc (below_alloc (Below.refl w.heap.size w) (.cells #[.pointer (some t)] 103)) (.cells #[.pointer (some ⟨4, 103, none⟩), .pointer (some ⟨w.heap.size, 0, none⟩), .int .u64 150] 149)
  have hg2 := (B2.cell (cell_lt hg)).trans hg
  have HJ := Lib.hid (hj.below B2)
  have HT := Lib.hid ((B2.cell (cell_lt ht)).trans ht)
  have HF := Lib.hid ((B2.frozen (cell_lt ht)).trans hf)
  have HA := Lib.hid (show ((w.alloc (.cells #[.pointer (some t)] 103)).alloc (.cells #[.pointer (some ⟨4, 103, none⟩), .pointer (some ⟨w.heap.size, 0, none⟩), .int .u64 150] 149)).cell? ⟨w.heap.size, 0, none⟩ = some (.pointer (some t)) by simp)
  have HB2 := Lib.hid B2
  clear B2 hj ht hf hg
  go_enter Tryd.func53, Tryd.ntmps53
  go_wp2_with (go_at_call 71; (with_reducible refine (as_join k n t _ old _ HJ.out HA.out HT.out HF.out).mono ?_); rintro e w1 ⟨rfl, W1, hb, rfl⟩; have HB3 := Lib.hid (below_step HB2.out hb); clear hb)
  go_ret
  exact ⟨rfl, _, HB3.out, rfl⟩
theorem code_nil (w : World) : Calls Tryd.prog 14 #[.nilIface] w fun e w' => e = .returned (.int .i64 0) ∧ w' = w := by
  go_enter Tryd.func14, Tryd.ntmps14
  go_wp2
  go_ret
  exact ⟨rfl, rfl⟩
set_option maxHeartbeats 4000000 in
set_option maxRecDepth 100000 in
theorem code_join (k : Nat) (n : Int) (w : World) (hg : w.cell? ⟨0, 0, none⟩ = some (.iface 166 (.agg #[.pointer (some ⟨4, 31, none⟩)]))) (hj : Joined w k n) : Calls Tryd.prog 14 #[.iface 179 (.pointer (some ⟨k, 0, none⟩))] w fun e w' => e = .returned (.int .i64 n) ∧ Below w.heap.size w w' := by
  have B1 := below_alloc (Below.refl w.heap.size w) (.cells #[.int .i64 0] 26)
  have HG := Lib.hid ((B1.cell (cell_lt hg)).trans hg)
  have HJ := Lib.hid (hj.below B1)
  have HB1 := Lib.hid B1
  have hnew := heap_alloc_new w (.cells #[.int .i64 0] 26)
  have HN := Lib.hid hnew
  clear hg hj B1 hnew
  go_enter Tryd.func14, Tryd.ntmps14
  go_wp2_with (fail)
  go_at_call 53
  (with_reducible refine (As_join k n ⟨w.heap.size, 0, none⟩ (.int .i64 0) _ HG.out HJ.out ((blk_cell HN.out 0).trans rfl) (blk_frozen HN.out 0)).mono ?_)
  rintro e w1 ⟨rfl, W1, hb, rfl⟩
  have hn1 := blk_set (blk_below HN.out hb) 0 (.int .i64 n)
  have c0 := (blk_cell hn1 0).trans (show _ = some (Value.int .i64 n) from rfl)
  have HB3 := Lib.hid ((below_step HB1.out hb).setCell (p := ⟨w.heap.size, 0, none⟩) (Nat.le_refl _) (.int .i64 n))
  clear hb hn1
  go_wp2
  go_ret
  exact ⟨rfl, HB3.out⟩
end Go.Proofs.YtphaaagcdjpceaaDoor
namespace Go.Proofs.YtphaaagcdjpceaaDoor
open Go.RowKit Go.Extern.Stop Go.Stop Go.Extern Go.Proofs.YtphaaagcdjpceaaDoorW.PrintWords Go.Proofs.YtphaaagcdjpceaaDoorW.PrintLast Go.Proofs.YtphaaagcdjpceaaDoorW.PrintMore
set_option linter.unusedVariables false
structure S108 where
  f0 : Int
  f1 : Bool
def z108 : S108 := ⟨(0 : Int), false⟩
def k108 : Kd S108 := Kd.iso (Kd.pair (Kd.int .i64) Kd.bool) (fun x : S108 => (x.f0, x.f1))
theorem k108_open {w : World} {x : S108} {cs : List Value} (h : k108.K w x cs) : cs = [.int .i64 x.f0, .bool x.f1] := by
  obtain ⟨_, _, rfl, rfl, rfl⟩ := h
  exact rfl
theorem k108_mkM (w : World) (base : Nat) (ok : Nat → Prop) (x : S108)  : k108.M w base ok x [.int .i64 x.f0, .bool x.f1] := ⟨[.int .i64 x.f0], [.bool x.f1], rfl, rfl, rfl⟩
def plc (xs : List S108) (i : Nat) : S108 := xs.getD i z108
theorem at_108 {w : World} {A : Option Addr} {n : Nat} {xs : List S108} (h : Kd.C k108 w A n xs) (i : Nat) (h1 : i < n) : ∃ ad , A = some ad ∧ w.cell? (ad.add (i * 2)) = some (.int .i64 (plc xs i).f0) ∧ w.cell? ⟨(ad.add (i * 2)).block, (ad.add (i * 2)).off + 1, none⟩ = some (.bool (plc xs i).f1) := by
  obtain ⟨ad, c, e, _, hK, hc0⟩ := Kd.C_get h z108 (i : Int) (by omega) (by omega)
  have hc : ∀ j u, c[j]? = some u → w.cell? (ad.add (i * 2 + j)) = some u := hc0
  obtain rfl := k108_open hK
  exact ⟨ad, e, hc 0 _ rfl, by rw [← add_field _ _ 1 (by omega)]; exact hc 1 _ rfl⟩
theorem add0_ (g k : Nat) : (⟨g, 0, none⟩ : Addr).add k = ⟨g, k, none⟩ := by
  cases k <;> simp [Addr.add]
theorem C108_mk {w : World} {g n cap : Nat} {xs : List S108} {base : Nat} {ok : Nat → Prop} (h : Kd.R k108 108 w base ok (.slice (some ⟨g, 0, none⟩) n cap) xs) (i : Nat) (hi : i < xs.length) (j : Nat) (u : Value) (hu : [Value.int .i64 (plc xs i).f0, .bool (plc xs i).f1][j]? = some u) : w.cell? ⟨g, i * 2 + j, none⟩ = some u := by
  obtain ⟨hn, _, hC⟩ := Kd.R_reads' h
  obtain ⟨ad, c, e, _, hK, hc0⟩ := Kd.C_get hC z108 (i : Int) (by omega) (by omega)
  cases e
  have hc : ∀ j u, c[j]? = some u → w.cell? ((⟨g, 0, none⟩ : Addr).add (i * 2 + j)) = some u := hc0
  obtain rfl := k108_open hK
  have := hc j u hu
  rwa [add0_] at this
theorem put108 {w : World} {g n cap : Nat} {xs : List S108} {base : Nat} (h : Kd.R k108 108 w base (fun _ => True) (.slice (some ⟨g, 0, none⟩) n cap) xs) (i : Nat) (hi : i < xs.length) (t : Int) : Kd.R k108 108 (w.setCell ⟨g, i * 2, none⟩ (.int .i64 t)) base (fun _ => True) (.slice (some ⟨g, 0, none⟩) n cap) (xs.set i ⟨t, (plc xs i).f1⟩) := by
  obtain ⟨hn, _, hC⟩ := Kd.R_reads' h
  have := (Kd.R_seg (okp := fun _ => False) h (i : Int) (by omega) (by omega) (c := [.int .i64 (plc xs i).f0, .bool (plc xs i).f1]) (seg := [.int .i64 t]) (j := 0) rfl (fun j u hu => C108_mk h i hi j u hu) (by show 0 + 1 ≤ 2; omega) (x' := ⟨t, (plc xs i).f1⟩) (k108_mkM _ _ _ _) (fun _ hk => hk.elim)).1
  exact this
theorem putb108 {w : World} {g n cap : Nat} {xs : List S108} {base : Nat} (h : Kd.R k108 108 w base (fun _ => True) (.slice (some ⟨g, 0, none⟩) n cap) xs) (i : Nat) (hi : i < xs.length) (t : Bool) : Kd.R k108 108 (w.setCell ⟨g, i * 2 + 1, none⟩ (.bool t)) base (fun _ => True) (.slice (some ⟨g, 0, none⟩) n cap) (xs.set i ⟨(plc xs i).f0, t⟩) := by
  obtain ⟨hn, _, hC⟩ := Kd.R_reads' h
  have := (Kd.R_seg (okp := fun _ => False) h (i : Int) (by omega) (by omega) (c := [.int .i64 (plc xs i).f0, .bool (plc xs i).f1]) (seg := [.bool t]) (j := 1) rfl (fun j u hu => C108_mk h i hi j u hu) (by show 1 + 1 ≤ 2; omega) (x' := ⟨(plc xs i).f0, t⟩) (k108_mkM _ _ _ _) (fun _ hk => hk.elim)).1
  exact this
def Good (w : World) : Prop := w.cell? ⟨0, 0, none⟩ = some (.iface 166 (.agg #[.pointer (some ⟨4, 31, none⟩)])) ∧ Lib.TabIs Tryd.prog w "internal/strconv.uint64pow10" .u64 Lib.pow10Tab
theorem tab_below {w w' : World} (h : Lib.TabIs Tryd.prog w "internal/strconv.uint64pow10" .u64 Lib.pow10Tab) (hb : Below w.heap.size w w') : Lib.TabIs Tryd.prog w' "internal/strconv.uint64pow10" .u64 Lib.pow10Tab := by
  have hg : Tryd.prog.globalNamed "internal/strconv.uint64pow10" = some 1 := by kernel_rfl
  have hlt : 1 < w.heap.size := by
    unfold Lib.TabIs World.var? at h
    rw [hg] at h
    rcases Nat.lt_or_ge 1 w.heap.size with h' | h'
    · exact h'
    · simp [Array.getElem?_eq_none h'] at h
  exact var?_below hb hg hlt h
theorem Good.below {w w' : World} (h : Good w) (hb : Below w.heap.size w w') : Good w' := ⟨(hb.cell (cell_lt h.1)).trans h.1, tab_below h.2 hb⟩
theorem below_grow_ (w : World) (k : Nat) (os : Array Obj) : Below w.heap.size w (Go.Sort.grow (w.drewN k) os) := by
  refine ⟨rfl, rfl, rfl, ?_, fun i hi => ?_⟩
  · show w.heap.size ≤ (w.heap ++ os).size
    rw [Array.size_append]; omega
  · show (w.heap ++ os)[i]? = _
    rw [Array.getElem?_append_left hi]
theorem itoa_calls (n : Int) (h0 : -9223372036854775808 ≤ n) (h1 : n ≤ 9223372036854775807) (w : World) (hg : Good w) : Calls Tryd.prog 52 #[.int .i64 n] w fun e w' => e = .returned (.string ⟨(Lib.itoa n).toArray⟩) ∧ Below w.heap.size w w' := by
  refine (Tryd.strconv_Itoa n h0 h1 w hg.2).mono ?_
  rintro e w' ⟨rfl, k, os, rfl⟩
  exact ⟨rfl, below_grow_ w k os⟩
theorem wrong_calls (n : Int) (s : ByteArray) (w : World) : Calls Tryd.prog 54 #[.int .i64 n, .string s] w fun e w' => ∃ k, e = .returned (.iface 179 (.pointer (some ⟨k, 0, none⟩))) ∧ Joined w' k n ∧ Below w.heap.size w w' := by
  obtain ⟨s⟩ := s
  have B1 := below_alloc (Below.refl w.heap.size w) (.cells #[.string ⟨s⟩] 184)
  have B2 := below_alloc B1 (.cells #[.iface 182 (.pointer (some ⟨w.heap.size, 0, none⟩)), .iface 26 (.int .i64 n)] 31)
  have hn := heap_alloc_new (w.alloc (.cells #[.string ⟨s⟩] 184)) (.cells #[.iface 182 (.pointer (some ⟨w.heap.size, 0, none⟩)), .iface 26 (.int .i64 n)] 31)
  rw [World.size_alloc] at hn
  have HN := Lib.hid hn; have HB := Lib.hid B2
  clear B1 B2 hn
  go_enter Tryd.func54, Tryd.ntmps54
  go_wp2_with (fail)
  go_at_call 73
  (with_reducible refine (new_calls s _).mono ?_)
  rintro e w1 ⟨rfl, rfl⟩
  go_wp2_with (fail)
  go_at_call 72
  (with_reducible refine (join_calls 182 26 (.pointer (some ⟨w.heap.size, 0, none⟩)) (.int .i64 n) (w.heap.size + 1) _ ((blk_cell HN.out 0).trans rfl) ((blk_cell HN.out 1).trans rfl) (blk_lt HN.out)).mono ?_)
  rintro e w2 ⟨k, m, rfl, hk, hm, hb⟩
  have HJ : Hid (Joined w2 k n) := ⟨m, _, hk, hm⟩
  have HB2 := Lib.hid (below_step HB.out hb)
  clear hk hm hb
  go_wp2
  go_ret
  exact ⟨k, rfl, HJ.out, HB2.out⟩
def PL (W : World) (base g : Nat) (most : Int) (ps : List S108) (n : Int) : Prop := base ≤ g ∧ ∃ A c, W.heap[g]? = some (.cells #[.int .i64 most, .slice A ps.length c, .int .i64 n] 106 (0, 0)) ∧ Kd.R k108 108 W base (fun _ => True) (.slice A ps.length c) ps
def Keeps (T : List Nat) (W W1 : World) : Prop := W.heap.size ≤ W1.heap.size ∧ ∀ (k : Nat) (cs : Array Value) (t : Nat) (fr : Nat × Nat), W.heap[k]? = some (Obj.cells cs t fr) → t ∉ T → W1.heap[k]? = W.heap[k]?
theorem Keeps.refl (T : List Nat) (W : World) : Keeps T W W := ⟨Nat.le_refl _, fun _ _ _ _ _ _ => rfl⟩
theorem Keeps.trans {T : List Nat} {W W1 W2 : World} (h : Keeps T W W1) (h2 : Keeps T W1 W2) : Keeps T W W2 := ⟨Nat.le_trans h.1 h2.1, fun k cs t fr hk ht => by
  have e := h.2 k cs t fr hk ht
  rw [← e]
  exact h2.2 k cs t fr (e.trans hk) ht⟩
theorem Keeps.below {T : List Nat} {W W1 : World} (h : Below W.heap.size W W1) : Keeps T W W1 := ⟨h.size, fun k _ _ _ hk _ => h.block k (blk_lt hk)⟩
theorem Keeps.set {T : List Nat} {W W1 : World} (h : Keeps T W W1) {g t : Nat} {cs : Array Value} (hg : W1.heap[g]? = some (Obj.cells cs t (0, 0))) (ht : t ∈ T) (j : Nat) (u : Value) : Keeps T W (W1.setCell ⟨g, j, none⟩ u) := ⟨by rw [World.size_setCell]; exact h.1, fun k cs' t' fr hk ht' => by
  have e := h.2 k cs' t' fr hk ht'
  have hne : k ≠ g := by
    rintro rfl
    rw [e, hk] at hg
    injection hg with hg
    injection hg with _ hg
    subst hg
    exact ht' ht
  rw [Below.heap_setCell W1 ⟨g, j, none⟩ u k hne]
  exact e⟩
theorem R_keeps {α : Type} {d : Kd α} {e : Nat} {W W1 : World} {base : Nat} {ok : Nat → Prop} {v : Value} {xs : List α} (h : d.R e W base ok v xs) {T : List Nat} (hk : Keeps T W W1) (ht : ∀ q, q ∈ e :: d.E → q ∉ T) : d.R e W1 base ok v xs :=
  Kd.R_mono (Kd.R_move (Kd.R_bound h) (fun k ⟨_, _, _, q, hq, cells, hc⟩ => hk.2 k cells q _ hc (ht q hq))) (fun _ hk => hk.1)
theorem PL.below {W W1 : World} {base g : Nat} {most n : Int} {ps : List S108} (h : PL W base g most ps n) (hb : Below W.heap.size W W1) : PL W1 base g most ps n := by
  obtain ⟨h0, A, c, h1, h2⟩ := h
  exact ⟨h0, A, c, blk_below h1 hb, Kd.R_below h2 hb⟩
theorem PL.keeps {W W1 : World} {base g : Nat} {most n : Int} {ps : List S108} (h : PL W base g most ps n) {T : List Nat} (hk : Keeps T W W1) (ht : 106 ∉ T ∧ 108 ∉ T) : PL W1 base g most ps n := by
  obtain ⟨h0, A, c, h1, h2⟩ := h
  exact ⟨h0, A, c, (hk.2 g _ _ _ h1 ht.1).trans h1, R_keeps h2 hk (fun q hq => by
    have : q = 108 := by simpa [k108, Kd.iso, Kd.pair, Kd.int, Kd.bool, Kd.scalar] using hq
    rw [this]; exact ht.2)⟩
theorem newpool_calls (m : Int) (w : World) : Calls Tryd.prog 15 #[.int .i64 m] w fun e w' => e = .returned (.pointer (some ⟨w.heap.size, 0, none⟩)) ∧ PL w' w.heap.size w.heap.size (min (max m 0) 10000) [] 0 ∧ Below w.heap.size w w' := by
  go_enter Tryd.func15, Tryd.ntmps15
  go_wp2
  go_ret
  exact ⟨rfl, ⟨Nat.le_refl _, none, 0, heap_alloc_new _ _, Kd.R_nil _ _ _ _ _⟩, below_alloc (Below.refl _ _) _⟩
theorem len_calls (g base : Nat) (most n : Int) (ps : List S108) (w : World) (h : PL w base g most ps n) : Calls Tryd.prog 18 #[.pointer (some ⟨g, 0, none⟩)] w fun e w' => e = .returned (.int .i64 n) ∧ w' = w := by
  obtain ⟨_, A, c, h1, _⟩ := h
  have c2 := (blk_cell h1 2).trans (show _ = some (Value.int .i64 n) from rfl)
  clear h1
  go_enter Tryd.func18, Tryd.ntmps18
  go_wp2
  go_ret
  exact ⟨rfl, rfl⟩
end Go.Proofs.YtphaaagcdjpceaaDoor
namespace Go.Proofs.YtphaaagcdjpceaaDoor
open Go.RowKit Go.Extern.Stop Go.Stop Go.Extern Go.Proofs.YtphaaagcdjpceaaDoorW.PrintWords Go.Proofs.YtphaaagcdjpceaaDoorW.PrintLast Go.Proofs.YtphaaagcdjpceaaDoorW.PrintMore
set_option linter.unusedVariables false
def hasB (ps : List S108) (p t : Int) : Bool := decide (0 ≤ p) && (decide (p < (ps.length : Int)) && ((plc ps p.toNat).f1 && ((plc ps p.toNat).f0 == t)))
set_option maxHeartbeats 4000000 in
set_option maxRecDepth 100000 in
theorem has_calls (g base : Nat) (most n : Int) (ps : List S108) (p t : Int) (w : World) (h : PL w base g most ps n) : Calls Tryd.prog 22 #[.pointer (some ⟨g, 0, none⟩), .agg #[.int .i64 p, .int .i64 t]] w fun e w' => e = .returned (.bool (hasB ps p t)) ∧ Below w.heap.size w w' := by
  obtain ⟨_, A, c, h1, h2⟩ := h
  have hlt := blk_lt h1
  have B1 := below_alloc (Below.refl w.heap.size w) (.cells #[.int .i64 p, .int .i64 t] 40)
  have c1 := (B1.cell (p := ⟨g, 1, none⟩) hlt).trans ((blk_cell h1 1).trans (show _ = some (Value.slice A ps.length c) from rfl))
  have hC := Lib.hid (Kd.R_reads' (Kd.R_below h2 B1)).2.2
  have HB1 := Lib.hid B1
  clear h1 h2 hlt B1
  go_enter Tryd.func22, Tryd.ntmps22
  by_cases p0 : 0 ≤ p
  · have d0 : decide (0 ≤ p) = true := decide_eq_true p0
    by_cases p1 : p < (ps.length : Int)
    · have d1 : decide (p < (ps.length : Int)) = true := decide_eq_true p1
      obtain ⟨i, rfl⟩ : ∃ i : Nat, p = (i : Int) := ⟨p.toNat, by omega⟩
      have hi : i < ps.length := by omega
      obtain ⟨ad, rfl, x0, x1⟩ := at_108 hC.out i hi
      have e : hasB ps (i : Int) t = ((plc ps i).f1 && ((plc ps i).f0 == t)) := by
        unfold hasB
        rw [d0, d1, Int.toNat_natCast]
        rfl
      rw [e]
      generalize plc ps i = x at *
      obtain ⟨x0', x1'⟩ := x
      cases x1'
      · go_wp2_with (fail)
        go_quiet (fail)
        rename_i nq
        go_wp2
        go_ret
        exact ⟨rfl, pw_below_drewN HB1.out nq⟩
      · go_wp2_with (fail)
        go_quiet (fail)
        rename_i nq
        go_wp2
        go_ret
        exact ⟨rfl, pw_below_drewN HB1.out nq⟩
    · have d1 : decide (p < (ps.length : Int)) = false := decide_eq_false p1
      have e : hasB ps p t = false := by
        unfold hasB
        rw [d1, Bool.false_and, Bool.and_false]
      rw [e]
      go_wp2_with (fail)
      go_quiet (fail)
      rename_i nq
      go_wp2
      go_ret
      exact ⟨rfl, pw_below_drewN HB1.out nq⟩
  · have d0 : decide (0 ≤ p) = false := decide_eq_false p0
    have e : hasB ps p t = false := by
      unfold hasB
      rw [d0, Bool.false_and]
    rw [e]
    go_wp2_with (fail)
    go_quiet (fail)
    rename_i nq
    go_wp2
    go_ret
    exact ⟨rfl, pw_below_drewN HB1.out nq⟩
end Go.Proofs.YtphaaagcdjpceaaDoor
namespace Go.Proofs.YtphaaagcdjpceaaDoor
open Go.RowKit Go.Extern.Stop Go.Stop Go.Extern Go.Proofs.YtphaaagcdjpceaaDoorW.PrintWords Go.Proofs.YtphaaagcdjpceaaDoorW.PrintLast Go.Proofs.YtphaaagcdjpceaaDoorW.PrintMore
set_option linter.unusedVariables false
def Fr (base : Nat) (W W1 : World) : Prop := Below base W W1 ∧ Keeps [106, 108] W W1
theorem Fr.of_below {base : Nat} {W W1 : World} (h : Below W.heap.size W W1) (hb : base ≤ W.heap.size) : Fr base W W1 := ⟨h.mono hb, Keeps.below h⟩
theorem Fr.trans {base : Nat} {W W1 W2 : World} (h : Fr base W W1) (h2 : Fr base W1 W2) : Fr base W W2 := ⟨h.1.trans h2.1, h.2.trans h2.2⟩
theorem PL.lt {W : World} {base g : Nat} {most n : Int} {ps : List S108} (h : PL W base g most ps n) : base ≤ W.heap.size := by
  obtain ⟨h0, A, c, h1, h2⟩ := h
  have := blk_lt h1
  omega
theorem itoa2 (n : Int) (hp : -9223372036854775808 ≤ n ∧ n ≤ 9223372036854775807) (w : World) (hg : Good w) : Calls Tryd.prog 52 #[.int .i64 n] w fun e w' => ∃ s : ByteArray, e = .returned (.string s) ∧ s.size ≤ 21 ∧ Below w.heap.size w w' := by
  refine (itoa_calls n hp.1 hp.2 w hg).mono ?_
  rintro e w' ⟨rfl, hb⟩
  exact ⟨_, rfl, by have := Lib.itoa_length_le n hp.1 hp.2; simpa [ByteArray.size] using this, hb⟩
theorem R108_blk {W : World} {base n c : Nat} {ad : Addr} {xs : List S108} (h : Kd.R k108 108 W base (fun _ => True) (.slice (some ad) n c) xs) : ∃ gb, ad = ⟨gb, 0, none⟩ ∧ base ≤ gb ∧ ∃ cur, W.heap[gb]? = some (.cells cur 108 (0, 0)) := by
  obtain ⟨_, inner, ho, _⟩ := h
  rcases ho.2 with ⟨hv, _⟩ | ⟨g, cap, cur, hv, hb, hh, _⟩
  · cases hv
  · injection hv with ha
    injection ha with ha
    exact ⟨g, ha, hb, cur, hh⟩
set_option maxHeartbeats 4000000 in
set_option maxRecDepth 100000 in
theorem free_no (g base : Nat) (most n : Int) (ps : List S108) (p t : Int) (w : World) (hG : Good w) (hp : -9223372036854775808 ≤ p ∧ p ≤ 9223372036854775807) (h : PL w base g most ps n) (hh : hasB ps p t = false) : Calls Tryd.prog 17 #[.pointer (some ⟨g, 0, none⟩), .agg #[.int .i64 p, .int .i64 t]] w fun e w' => ∃ k, e = .returned (.iface 179 (.pointer (some ⟨k, 0, none⟩))) ∧ Joined w' k 3 ∧ Below w.heap.size w w' := by
  have B1 := below_alloc (Below.refl w.heap.size w) (.cells #[.int .i64 p, .int .i64 t] 40)
  have hn := heap_alloc_new w (.cells #[.int .i64 p, .int .i64 t] 40)
  have HP := Lib.hid (h.below B1)
  have HN := Lib.hid hn
  have HB1 := Lib.hid B1
  have HG := Lib.hid (hG.below B1)
  have HI := Lib.hid hp
  have HH := Lib.hid hh
  clear B1 hn h hG hp hh
  go_enter Tryd.func17, Tryd.ntmps17
  go_wp2_with (fail)
  go_at_call 22
  (with_reducible refine (has_calls g base most n ps p t _ HP.out).mono ?_)
  rintro e w2 ⟨rfl, hb⟩
  rw [HH.out]
  have hn2 := blk_below HN.out hb
  have c0 := (blk_cell hn2 0).trans (show _ = some (Value.int .i64 p) from rfl)
  have HG2 := Lib.hid (HG.out.below hb)
  have HB2 := Lib.hid (below_step HB1.out hb)
  clear hb hn2
  go_wp2_with (fail)
  go_at_call 52
  (with_reducible refine (itoa2 p HI.out _ HG2.out).mono ?_)
  rintro e w3 ⟨s, rfl, hs, hb⟩
  have hadd : ∀ w, (Op.stringOp .add { data := #[112, 108, 97, 99, 101, 32] } (s : ByteArray)).run Tryd.prog w = .ok (.string ({ data := #[112, 108, 97, 99, 101, 32] } ++ s)) w := fun w => run_string_add_sum w _ _ (by have : (({ data := #[112, 108, 97, 99, 101, 32] } : ByteArray)).size = 6 := rfl; omega)
  have HB3 := Lib.hid (below_step HB2.out hb)
  clear hb
  go_wp2_with (fail)
  go_at_call 54
  (with_reducible refine (wrong_calls 3 _ _).mono ?_)
  rintro e w4 ⟨k, rfl, hj, hb⟩
  have HJ := Lib.hid hj
  have HB4 := Lib.hid (below_step HB3.out hb)
  clear hb hj
  go_wp2
  go_ret
  exact ⟨k, rfl, HJ.out, HB4.out⟩
end Go.Proofs.YtphaaagcdjpceaaDoor
namespace Go.Proofs.YtphaaagcdjpceaaDoor
open Go.RowKit Go.Extern.Stop Go.Stop Go.Extern Go.Proofs.YtphaaagcdjpceaaDoorW.PrintWords Go.Proofs.YtphaaagcdjpceaaDoorW.PrintLast Go.Proofs.YtphaaagcdjpceaaDoorW.PrintMore
set_option linter.unusedVariables false
theorem E108 : ∀ q, q ∈ 108 :: k108.E → q = 108 := fun q hq => by simpa [k108, Kd.iso, Kd.pair, Kd.int, Kd.bool, Kd.scalar] using hq
structure Op_ (W : World) (base g : Nat) (most n : Int) (ps : List S108) (i : Nat) (ad : Addr) (c : Nat) : Prop where
  c0 : W.cell? ⟨g, 0, none⟩ = some (.int .i64 most)
  c1 : W.cell? ⟨g, 1, none⟩ = some (.slice (some ad) ps.length c)
  c2 : W.cell? ⟨g, 2, none⟩ = some (.int .i64 n)
  f2 : W.frozen? ⟨g, 2, none⟩ = false
  x0 : W.cell? (ad.add (i * 2)) = some (.int .i64 (plc ps i).f0)
  x1 : W.cell? ⟨(ad.add (i * 2)).block, (ad.add (i * 2)).off + 1, none⟩ = some (.bool (plc ps i).f1)
  y0 : W.frozen? (ad.add (i * 2)) = false
  y1 : W.frozen? ⟨(ad.add (i * 2)).block, (ad.add (i * 2)).off + 1, none⟩ = false
  putT : ∀ t, PL (W.setCell (ad.add (i * 2)) (.int .i64 t)) base g most (ps.set i ⟨t, (plc ps i).f1⟩) n ∧ Fr base W (W.setCell (ad.add (i * 2)) (.int .i64 t))
  putB : ∀ t, PL (W.setCell ⟨(ad.add (i * 2)).block, (ad.add (i * 2)).off + 1, none⟩ (.bool t)) base g most (ps.set i ⟨(plc ps i).f0, t⟩) n ∧ Fr base W (W.setCell ⟨(ad.add (i * 2)).block, (ad.add (i * 2)).off + 1, none⟩ (.bool t))
  putN : ∀ t, PL (W.setCell ⟨g, 2, none⟩ (.int .i64 t)) base g most ps t ∧ Fr base W (W.setCell ⟨g, 2, none⟩ (.int .i64 t))
theorem PL.op {W : World} {base g : Nat} {most n : Int} {ps : List S108} (h : PL W base g most ps n) (i : Nat) (hi : i < ps.length) : ∃ ad c, Op_ W base g most n ps i ad c := by
  obtain ⟨g0, A, c, h1, h2⟩ := h
  have hbw : base ≤ W.heap.size := by have := blk_lt h1; omega
  obtain ⟨hl, hc, hC⟩ := Kd.R_reads' h2
  obtain ⟨ad, rfl, x0, x1⟩ := at_108 hC i hi
  obtain ⟨gb, rfl, hgb, cur, hcur⟩ := R108_blk h2
  have hne : g ≠ gb := by
    rintro rfl
    have h3 := h1
    rw [hcur] at h3
    injection h3 with h3
    injection h3 with _ h3
    exact absurd h3 (by decide)
  refine ⟨⟨gb, 0, none⟩, c, ?_⟩
  constructor
  · exact (blk_cell h1 0).trans rfl
  · exact (blk_cell h1 1).trans rfl
  · exact (blk_cell h1 2).trans rfl
  · exact blk_frozen h1 2
  · exact x0
  · exact x1
  · rw [add0_]; exact blk_frozen hcur _
  · rw [add0_]; exact blk_frozen hcur _
  · intro t
    rw [add0_]
    exact ⟨⟨g0, _, c, by rw [List.length_set]; exact blk_far (p := ⟨gb, i * 2, none⟩) h1 hne _, by rw [List.length_set]; exact put108 h2 i hi t⟩, (Below.refl base W).setCell (p := ⟨gb, i * 2, none⟩) hgb _, (Keeps.refl _ W).set hcur (by decide) _ _⟩
  · intro t
    rw [add0_]
    exact ⟨⟨g0, _, c, by rw [List.length_set]; exact blk_far (p := ⟨gb, i * 2 + 1, none⟩) h1 hne _, by rw [List.length_set]; exact putb108 h2 i hi t⟩, (Below.refl base W).setCell (p := ⟨gb, i * 2 + 1, none⟩) hgb _, (Keeps.refl _ W).set hcur (by decide) _ _⟩
  · intro t
    exact ⟨⟨g0, _, c, blk_set h1 2 _, Kd.R_set h2 h1 (fun q hq => by rw [E108 q hq]; decide) 2 _⟩, (Below.refl base W).setCell (p := ⟨g, 2, none⟩) g0 _, (Keeps.refl _ W).set h1 (by decide) _ _⟩
theorem info108 : (Tryd.prog.info? 108).map (fun i => (i.zero, i.size, i.bytes)) = some (some (.agg #[.int .i64 0, .bool false]), 2, 16) := by kernel_rfl
def Hn (W : World) (h : Nat) (p t : Int) : Prop := W.heap[h]? = some (Obj.cells #[.int .i64 p, .int .i64 t] 40 (0, 0))
theorem Hn.fr {W W1 : World} {h base : Nat} {p t : Int} (hn : Hn W h p t) (hf : Fr base W W1) : Hn W1 h p t := (hf.2.2 h _ _ _ hn (by decide)).trans hn
def grow0 (ps : List S108) (i : Nat) : List S108 := if i < ps.length then ps else ps ++ [⟨0, false⟩]
theorem grow0_lt {ps : List S108} {i : Nat} (hi : i ≤ ps.length) : i < (grow0 ps i).length := by
  unfold grow0
  split
  · assumption
  · simp; omega
def turnOf (ps : List S108) (i : Nat) : Int := (plc (grow0 ps i) i).f0 + 1
def tookL (ps : List S108) (i : Nat) : List S108 := (grow0 ps i).set i ⟨turnOf ps i, true⟩
theorem Joined.keeps {W W1 : World} {k : Nat} {n : Int} (h : Joined W k n) {T : List Nat} (hk : Keeps T W W1) (ht : 181 ∉ T ∧ 31 ∉ T) : Joined W1 k n := by
  obtain ⟨m, s, h1, h2⟩ := h
  exact ⟨m, s, (hk.2 _ _ _ _ h1 ht.1).trans h1, (hk.2 _ _ _ _ h2 ht.2).trans h2⟩
theorem keeps_app {wr w8 : World} {base : Nat} {v : Value} {xs : List S108} (hr : Kd.R k108 108 wr base (fun _ => True) v xs) (hg : wr.grownBy w8 v.ownBlock) : Keeps [108] wr w8 := ⟨hg.size, fun k cs t fr hk ht => hg.block k (blk_lt hk) (by
  intro he
  obtain ⟨_, inner, ho, _⟩ := hr
  obtain ⟨cells, hc⟩ := own_typed ho k he.symm
  rw [hc] at hk
  injection hk with hk
  injection hk with _ hk
  subst hk
  exact ht (by simp))⟩
theorem Keeps.mono {T T' : List Nat} {W W1 : World} (h : Keeps T W W1) (ht : ∀ q, q ∈ T → q ∈ T') : Keeps T' W W1 := ⟨h.1, fun k cs t fr hk hn => h.2 k cs t fr hk (fun hm => hn (ht t hm))⟩
theorem fr_app {wr w8 : World} {base : Nat} {v : Value} {xs : List S108} (hr : Kd.R k108 108 wr base (fun _ => True) v xs) (hb : base ≤ wr.heap.size) (hg : wr.grownBy w8 v.ownBlock) : Fr base wr w8 :=
  ⟨pw_below_grown (Below.refl base wr) _ hb hg (fun k hk => by
    rcases Kd.R_base2 hr with h | ⟨q, h, hq⟩
    · rw [h] at hk; cases hk
    · rw [h] at hk; injection hk with hk; omega), (keeps_app hr hg).mono (fun q hq => by simp at hq; subst hq; decide)⟩
theorem pl_app {wr w8 : World} {base g c g8 c8 : Nat} {most n : Int} {A : Option Addr} {ps : List S108} (h : wr.heap[g]? = some (Obj.cells #[.int .i64 most, .slice A ps.length c, .int .i64 n] 106 (0, 0))) (g0 : base ≤ g) (hr : Kd.R k108 108 wr base (fun _ => True) (.slice A ps.length c) ps) (hb : base ≤ wr.heap.size) (hg : wr.grownBy w8 (Value.slice A ps.length c).ownBlock)
    (ho : Kd.R k108 108 w8 base (fun _ => True) (.slice (some ⟨g8, 0, none⟩) (ps.length + 1) c8) (ps ++ ([⟨0, false⟩] : List S108))) :
    PL (w8.setCell ⟨g, 1, none⟩ (.slice (some ⟨g8, 0, none⟩) (ps.length + 1) c8)) base g most (ps ++ ([⟨0, false⟩] : List S108)) n ∧ Fr base wr (w8.setCell ⟨g, 1, none⟩ (.slice (some ⟨g8, 0, none⟩) (ps.length + 1) c8)) ∧ w8.cell? ⟨g, 1, none⟩ = some (.slice A ps.length c) ∧ w8.frozen? ⟨g, 1, none⟩ = false := by
  have h8 := ((keeps_app hr hg).2 g _ _ _ h (by decide)).trans h
  have f8 := fr_app hr hb hg
  have e : (ps ++ ([⟨0, false⟩] : List S108)).length = ps.length + 1 := by simp
  exact ⟨⟨g0, _, c8, by rw [e]; exact blk_set h8 1 _, by rw [e]; exact Kd.R_set ho h8 (fun q hq => by rw [E108 q hq]; decide) 1 _⟩, ⟨f8.1.setCell (p := ⟨g, 1, none⟩) g0 _, f8.2.set h8 (by decide) 1 _⟩, (blk_cell h8 1).trans rfl, blk_frozen h8 1⟩
theorem plc_set {ps : List S108} {i : Nat} (h : i < ps.length) (x : S108) : plc (ps.set i x) i = x := by simp [plc, h]
theorem fr_new {W W1 : World} {base : Nat} (h : Fr base W W1) (hb : base ≤ W.heap.size) (u v : Value) : Fr base W ((W1.setCell ⟨W.heap.size, 0, none⟩ u).setCell ⟨W.heap.size, 1, none⟩ v) :=
  ⟨(h.1.setCell (p := ⟨W.heap.size, 0, none⟩) hb _).setCell (p := ⟨W.heap.size, 1, none⟩) hb _, ⟨by rw [World.size_setCell, World.size_setCell]; exact h.2.1, fun k cs t fr hk ht => by
    have hlt := blk_lt hk
    rw [Below.heap_setCell _ ⟨W.heap.size, 1, none⟩ v k (by show k ≠ W.heap.size; omega), Below.heap_setCell _ ⟨W.heap.size, 0, none⟩ u k (by show k ≠ W.heap.size; omega)]
    exact h.2.2 k cs t fr hk ht⟩⟩
set_option maxHeartbeats 4000000 in
set_option maxRecDepth 100000 in
theorem take_full (g base : Nat) (n : Int) (ps : List S108) (i : Nat) (w : World) (hG : Good w) (h : PL w base g (i : Int) ps n) (hi : i ≤ ps.length) (hf : ∀ j, j < i → (plc ps j).f1 = true) (hf2 : i < ps.length → (plc ps i).f1 = false) (hl : ps.length ≤ 1000) :
    Calls Tryd.prog 16 #[.pointer (some ⟨g, 0, none⟩)] w fun e w' => ∃ k, e = .returned (.tuple #[.agg #[.int .i64 0, .int .i64 0], .iface 179 (.pointer (some ⟨k, 0, none⟩))]) ∧ Joined w' k 2 ∧ Below w.heap.size w w' := by
  have B1 := below_alloc (Below.refl w.heap.size w) (.cells #[.int .i64 0, .int .i64 0] 40)
  have HHN := Lib.hid (show Hn (w.alloc (.cells #[.int .i64 0, .int .i64 0] 40)) w.heap.size 0 0 from heap_alloc_new w _)
  have HP := Lib.hid (h.below B1)
  have HG := Lib.hid (hG.below B1)
  have HB := Lib.hid B1
  have HFT := Lib.hid hf; have HFF := Lib.hid hf2
  clear B1 h hG hf hf2
  go_enter Tryd.func16, Tryd.ntmps16
  go_wp2_with (fail)
  go_loopg [4] i (fun gk v4 wr => ∃ j : Nat, v4 = .int .i64 (j : Int) ∧ j ≤ i ∧ i - j ≤ gk ∧ Hid (PL wr base g (i : Int) ps n) ∧ Hid (Below w.heap.size w wr) ∧ Hid (Hn wr w.heap.size 0 0) ∧ Hid (Good wr))
  case atStart => exact ⟨0, rfl, by omega, by omega, HP.out, HB.out, HHN.out, HG.out⟩
  case round =>
    obtain ⟨j, rfl, hj, hk, HP1, HB1, HN1, HG1⟩ := hrel
    by_cases hlt : j < i
    · obtain ⟨ad, c, op⟩ := HP1.out.op j (by omega)
      have c1 := op.c1
      have x1 := op.x1
      rw [HFT.out j hlt] at x1
      clear op
      have cj : (j : Int) < (ps.length : Int) := by omega
      have cj0 : (0 : Int) ≤ (j : Int) := by omega
      go_wp2
      go_roundg (i - (j + 1))
      case measure => omega
      case rel => exact ⟨j + 1, by simp, by omega, by omega, HP1.out, HB1.out, HN1.out, HG1.out⟩
    · obtain rfl : j = i := by omega
      clear hlt hj hk HP HB HHN HG
      have HFR : Hid (∃ A c, wr.heap[g]? = some (Obj.cells #[.int .i64 (j : Int), .slice A ps.length c, .int .i64 n] 106 (0, 0)) ∧ Kd.R k108 108 wr base (fun _ => True) (.slice A ps.length c) ps ∧ base ≤ g) := by
        obtain ⟨g0, A, c, h1, h2⟩ := HP1.out
        exact ⟨A, c, h1, h2, g0⟩
      obtain ⟨A, c, h1, h2, g0⟩ := HFR.out
      have c0 := (blk_cell h1 0).trans (show _ = some (Value.int .i64 (j : Int)) from rfl)
      have c1 := (blk_cell h1 1).trans (show _ = some (Value.slice A ps.length c) from rfl)
      have z0 := (blk_cell HN1.out 0).trans (show _ = some (Value.int .i64 0) from rfl)
      have z1 := (blk_cell HN1.out 1).trans (show _ = some (Value.int .i64 0) from rfl)
      have hel : ((j : Int) == (j : Int)) = true := by simp
      by_cases hlt : j < ps.length
      · obtain ⟨ad, rfl, _, x1⟩ := at_108 (Kd.R_reads' h2).2.2 j hlt
        rw [HFF.out hlt] at x1
        have cj : (j : Int) < (ps.length : Int) := by omega
        have cj0 : (0 : Int) ≤ (j : Int) := by omega
        clear h1 h2 g0 HFR
        go_wp2_with (fail)
        go_at_call 52
        (with_reducible refine (itoa2 (j : Int) (by omega) _ HG1.out).mono ?_)
        rintro e w3 ⟨s, rfl, hs, hb⟩
        have hadd : ∀ w, (Op.stringOp .add { data := #[110, 111, 32, 112, 108, 97, 99, 101, 32, 111, 102, 32] } (s : ByteArray)).run Tryd.prog w = .ok (.string ({ data := #[110, 111, 32, 112, 108, 97, 99, 101, 32, 111, 102, 32] } ++ s)) w := fun w => run_string_add_sum w _ _ (by have : (({ data := #[110, 111, 32, 112, 108, 97, 99, 101, 32, 111, 102, 32] } : ByteArray)).size = 12 := rfl; omega)
        have HB3 := Lib.hid (below_step HB1.out hb)
        have HN3 := Lib.hid (blk_below HN1.out hb)
        clear hb c0 c1 hel
        go_wp2_with (fail)
        go_at_call 54
        (with_reducible refine (wrong_calls 2 _ _).mono ?_)
        rintro e w4 ⟨k, rfl, hj, hb⟩
        have HJ := Lib.hid hj
        have HB4 := Lib.hid (below_step HB3.out hb)
        have hn4 := blk_below HN3.out hb
        have z4 := (blk_cell hn4 0).trans (show _ = some (Value.int .i64 0) from rfl)
        have z5 := (blk_cell hn4 1).trans (show _ = some (Value.int .i64 0) from rfl)
        have u0 : w4.frozen? ⟨w.heap.size, 0, none⟩ = false := blk_frozen hn4 0
        have u1 : w4.frozen? ⟨w.heap.size, 1, none⟩ = false := blk_frozen hn4 1
        have HJ5 := Lib.hid (HJ.out.keeps ((((Keeps.refl [40] w4).set hn4 (by decide) 0 (.int .i64 0))).set (blk_set hn4 0 _) (by decide) 1 (.int .i64 0)) ⟨by decide, by decide⟩)
        have HB5 : Hid (Below w.heap.size w ((w4.setCell ⟨w.heap.size, 0, none⟩ (.int .i64 0)).setCell ⟨w.heap.size, 1, none⟩ (.int .i64 0))) := (HB4.out.setCell (p := ⟨w.heap.size, 0, none⟩) (Nat.le_refl _) _).setCell (p := ⟨w.heap.size, 1, none⟩) (Nat.le_refl _) _
        have r0 := (blk_cell (blk_set (blk_set hn4 0 (.int .i64 0)) 1 (.int .i64 0)) 0).trans (show _ = some (Value.int .i64 0) from rfl)
        have r1 := (blk_cell (blk_set (blk_set hn4 0 (.int .i64 0)) 1 (.int .i64 0)) 1).trans (show _ = some (Value.int .i64 0) from rfl)
        clear hb hj hn4
        go_wp2
        exact bodyPost_ret (v := .tuple #[.agg #[.int .i64 0, .int .i64 0], .iface 179 (.pointer (some ⟨k, 0, none⟩))]) (by simp [results, Tryd.results16, go_sem, r0, r1]) rfl ⟨k, rfl, HJ5.out, HB5.out⟩
      · have hd : decide ((j : Int) < (ps.length : Int)) = false := decide_eq_false (by omega)
        clear h1 h2 g0 HFR
        go_wp2_with (fail)
        go_at_call 52
        (with_reducible refine (itoa2 (j : Int) (by omega) _ HG1.out).mono ?_)
        rintro e w3 ⟨s, rfl, hs, hb⟩
        have hadd : ∀ w, (Op.stringOp .add { data := #[110, 111, 32, 112, 108, 97, 99, 101, 32, 111, 102, 32] } (s : ByteArray)).run Tryd.prog w = .ok (.string ({ data := #[110, 111, 32, 112, 108, 97, 99, 101, 32, 111, 102, 32] } ++ s)) w := fun w => run_string_add_sum w _ _ (by have : (({ data := #[110, 111, 32, 112, 108, 97, 99, 101, 32, 111, 102, 32] } : ByteArray)).size = 12 := rfl; omega)
        have HB3 := Lib.hid (below_step HB1.out hb)
        have HN3 := Lib.hid (blk_below HN1.out hb)
        clear hb c0 c1 hel
        go_wp2_with (fail)
        go_at_call 54
        (with_reducible refine (wrong_calls 2 _ _).mono ?_)
        rintro e w4 ⟨k, rfl, hj, hb⟩
        have HJ := Lib.hid hj
        have HB4 := Lib.hid (below_step HB3.out hb)
        have hn4 := blk_below HN3.out hb
        have z4 := (blk_cell hn4 0).trans (show _ = some (Value.int .i64 0) from rfl)
        have z5 := (blk_cell hn4 1).trans (show _ = some (Value.int .i64 0) from rfl)
        have u0 : w4.frozen? ⟨w.heap.size, 0, none⟩ = false := blk_frozen hn4 0
        have u1 : w4.frozen? ⟨w.heap.size, 1, none⟩ = false := blk_frozen hn4 1
        have HJ5 := Lib.hid (HJ.out.keeps ((((Keeps.refl [40] w4).set hn4 (by decide) 0 (.int .i64 0))).set (blk_set hn4 0 _) (by decide) 1 (.int .i64 0)) ⟨by decide, by decide⟩)
        have HB5 : Hid (Below w.heap.size w ((w4.setCell ⟨w.heap.size, 0, none⟩ (.int .i64 0)).setCell ⟨w.heap.size, 1, none⟩ (.int .i64 0))) := (HB4.out.setCell (p := ⟨w.heap.size, 0, none⟩) (Nat.le_refl _) _).setCell (p := ⟨w.heap.size, 1, none⟩) (Nat.le_refl _) _
        have r0 := (blk_cell (blk_set (blk_set hn4 0 (.int .i64 0)) 1 (.int .i64 0)) 0).trans (show _ = some (Value.int .i64 0) from rfl)
        have r1 := (blk_cell (blk_set (blk_set hn4 0 (.int .i64 0)) 1 (.int .i64 0)) 1).trans (show _ = some (Value.int .i64 0) from rfl)
        clear hb hj hn4
        go_wp2
        exact bodyPost_ret (v := .tuple #[.agg #[.int .i64 0, .int .i64 0], .iface 179 (.pointer (some ⟨k, 0, none⟩))]) (by simp [results, Tryd.results16, go_sem, r0, r1]) rfl ⟨k, rfl, HJ5.out, HB5.out⟩
end Go.Proofs.YtphaaagcdjpceaaDoor
namespace Go.Proofs.YtphaaagcdjpceaaDoor
open Go.RowKit Go.Extern.Stop Go.Stop Go.Extern Go.Proofs.YtphaaagcdjpceaaDoorW.PrintWords Go.Proofs.YtphaaagcdjpceaaDoorW.PrintLast Go.Proofs.YtphaaagcdjpceaaDoorW.PrintMore
set_option linter.unusedVariables false
structure St (w W : World) (g : Nat) (most : Int) (ps : List S108) (n : Int) : Prop where
  pl : PL W w.heap.size g most ps n
  bl : Below w.heap.size w W
theorem St.below {w W W1 : World} {g : Nat} {most n : Int} {ps : List S108} (h : St w W g most ps n) (hb : Below W.heap.size W W1) : St w W1 g most ps n := ⟨h.pl.below hb, below_step h.bl hb⟩
theorem St.good {w W : World} {g : Nat} {most n : Int} {ps : List S108} (hG : Good w) (h : St w W g most ps n) : Good W := hG.below h.bl
theorem good_et' {w : World} (h : Good w) : w.cell? ⟨0, 0, none⟩ = some (.iface 166 (.agg #[.pointer (some ⟨4, 31, none⟩)])) := And.left h
theorem len2 (w W : World) (g : Nat) (most n : Int) (ps : List S108) (h : St w W g most ps n) : Calls Tryd.prog 18 #[.pointer (some ⟨g, 0, none⟩)] W fun e w' => e = .returned (.int .i64 n) ∧ w' = W := len_calls g w.heap.size most n ps W h.pl
end Go.Proofs.YtphaaagcdjpceaaDoor
namespace Go.Proofs.YtphaaagcdjpceaaDoor
open Go.RowKit Go.Extern.Stop Go.Stop Go.Extern Go.Proofs.YtphaaagcdjpceaaDoorW.PrintWords Go.Proofs.YtphaaagcdjpceaaDoorW.PrintLast Go.Proofs.YtphaaagcdjpceaaDoorW.PrintMore
set_option linter.unusedVariables false
theorem and_mask (x : Int) (i : Nat) (hi : i ≤ 62) : Go.bits .and .i64 x (2 ^ i - 1) = x % 2 ^ i := by
  have hp : (0 : Int) < 2 ^ i := Int.pow_pos (by decide)
  have hpn : 0 < 2 ^ i := Nat.two_pow_pos i
  have hle : (2 : Int) ^ i ≤ 2 ^ 62 := by
    have : (2 : Nat) ^ i ≤ 2 ^ 62 := Nat.pow_le_pow_right (by decide) hi
    exact_mod_cast this
  have hle' : (2 : Nat) ^ i ≤ 2 ^ 62 := Nat.pow_le_pow_right (by decide) hi
  have hm : (BitVec.ofInt 64 ((2 : Int) ^ i - 1)).toNat = 2 ^ i - 1 := by
    rw [BitVec.toNat_ofInt]
    have e : ((2 : Int) ^ i - 1) = ((2 ^ i - 1 : Nat) : Int) := by rw [Int.natCast_sub hpn]; simp
    rw [e]; omega
  have hx : (BitVec.ofInt 64 x).toNat = (x % 18446744073709551616).toNat := by rw [BitVec.toNat_ofInt]; rfl
  have h1 : (BitVec.ofInt 64 x &&& BitVec.ofInt 64 ((2 : Int) ^ i - 1)).toNat = (x % 18446744073709551616).toNat % 2 ^ i := by
    rw [BitVec.toNat_and, hx, hm, Nat.and_two_pow_sub_one_eq_mod]
  have h2 : (((x % 18446744073709551616).toNat % 2 ^ i : Nat) : Int) = x % 2 ^ i := by
    rw [Int.natCast_emod, Int.toNat_of_nonneg (Int.emod_nonneg _ (by decide))]
    have : ((2 ^ i : Nat) : Int) = (2 : Int) ^ i := by simp
    rw [this]
    exact Int.emod_emod_of_dvd x (by
      have : (18446744073709551616 : Int) = 2 ^ i * 2 ^ (64 - i) := by rw [← Int.pow_add, show i + (64 - i) = 64 from by omega]; rfl
      rw [this]; exact Int.dvd_mul_right _ _)
  show IntKind.i64.wrap (((BitVec.ofInt 64 x &&& BitVec.ofInt 64 ((2 : Int) ^ i - 1)).toNat : Nat) : Int) = _
  rw [h1, h2, IntKind.wrap_i64]
  have a := Int.emod_nonneg x (b := 2 ^ i) (by omega)
  have b := Int.emod_lt_of_pos x hp
  generalize x % 2 ^ i = z at *
  omega
def lstF (l : List Int) (i : Nat) : Int := l.getD i 0
structure S40 where
  f0 : Int
  f1 : Int
def z40 : S40 := ⟨0, 0⟩
def k40 : Kd S40 := Kd.iso (Kd.pair (Kd.int .i64) (Kd.int .i64)) (fun x : S40 => (x.f0, x.f1))
theorem k40_open {w : World} {x : S40} {cs : List Value} (h : k40.K w x cs) : cs = [.int .i64 x.f0, .int .i64 x.f1] := by
  obtain ⟨_, _, rfl, rfl, rfl⟩ := h
  exact rfl
theorem k40_mkM (w : World) (base : Nat) (ok : Nat → Prop) (x : S40)  : k40.M w base ok x [.int .i64 x.f0, .int .i64 x.f1] := ⟨[.int .i64 x.f0], [.int .i64 x.f1], rfl, rfl, rfl⟩
theorem info40 : (Tryd.prog.info? 40).map (fun i => (i.zero, i.size, i.bytes)) = some (some (.agg #[.int .i64 0, .int .i64 0]), 2, 16) := by kernel_rfl
theorem E40 : ∀ q, q ∈ 40 :: k40.E → q = 40 := fun q hq => by simpa [k40, Kd.iso, Kd.pair, Kd.int, Kd.scalar] using hq
def hat (xs : List S40) (i : Nat) : S40 := xs.getD i z40
abbrev HR (W : World) (base : Nat) (v : Value) (hs : List S40) : Prop := Kd.R k40 40 W base (fun _ => True) v hs
theorem HR.fr {W W1 : World} {base b2 : Nat} {v : Value} {hs : List S40} (h : HR W base v hs) (hf : Fr b2 W W1) : HR W1 base v hs := R_keeps h hf.2 (fun q hq => by rw [E40 q hq]; decide)
theorem HR.below {W W1 : World} {base : Nat} {v : Value} {hs : List S40} (h : HR W base v hs) (hb : Below W.heap.size W W1) : HR W1 base v hs := Kd.R_below h hb
structure OpH (W : World) (base : Nat) (hs : List S40) (i : Nat) (ad : Addr) (c : Nat) : Prop where
  x0 : W.cell? (ad.add (i * 2)) = some (.int .i64 (hat hs i).f0)
  x1 : W.cell? ⟨(ad.add (i * 2)).block, (ad.add (i * 2)).off + 1, none⟩ = some (.int .i64 (hat hs i).f1)
  y0 : W.frozen? (ad.add (i * 2)) = false
  y1 : W.frozen? ⟨(ad.add (i * 2)).block, (ad.add (i * 2)).off + 1, none⟩ = false
  x1s : ∀ u, (W.setCell (ad.add (i * 2)) u).cell? ⟨(ad.add (i * 2)).block, (ad.add (i * 2)).off + 1, none⟩ = some (.int .i64 (hat hs i).f1)
  put : ∀ p t, HR ((W.setCell (ad.add (i * 2)) (.int .i64 p)).setCell ⟨(ad.add (i * 2)).block, (ad.add (i * 2)).off + 1, none⟩ (.int .i64 t)) base (.slice (some ad) hs.length c) (hs.set i ⟨p, t⟩) ∧ Below base W ((W.setCell (ad.add (i * 2)) (.int .i64 p)).setCell ⟨(ad.add (i * 2)).block, (ad.add (i * 2)).off + 1, none⟩ (.int .i64 t)) ∧ Keeps [40] W ((W.setCell (ad.add (i * 2)) (.int .i64 p)).setCell ⟨(ad.add (i * 2)).block, (ad.add (i * 2)).off + 1, none⟩ (.int .i64 t))
theorem HR.form {W : World} {base : Nat} {v : Value} {hs : List S40} (h : HR W base v hs) (hp : 0 < hs.length) : ∃ ad c, v = .slice (some ad) hs.length c := by
  obtain ⟨g, c, hv, _⟩ := Kd.R_form h hp
  exact ⟨_, c, hv⟩
theorem HR.op {W : World} {base : Nat} {ad : Addr} {c : Nat} {hs : List S40} (h : HR W base (.slice (some ad) hs.length c) hs) (i : Nat) (hi : i < hs.length) : OpH W base hs i ad c := by
  obtain ⟨gb, c', hv, hgb, _, cur, hcur⟩ := Kd.R_form h (by omega)
  injection hv with ha _ hc
  injection ha with ha
  subst ha
  subst hc
  obtain ⟨hl, hc, hC⟩ := Kd.R_reads' h
  obtain ⟨ad, cs, e, _, hK, hc0⟩ := Kd.C_get hC z40 (i : Int) (by omega) (by omega)
  have hcc : ∀ j u, cs[j]? = some u → W.cell? (ad.add (i * 2 + j)) = some u := hc0
  obtain rfl := k40_open hK
  cases e
  have x0 : W.cell? ⟨gb, i * 2, none⟩ = some (.int .i64 (hat hs i).f0) := by rw [← add0_]; exact hcc 0 _ rfl
  have x1 : W.cell? ⟨gb, i * 2 + 1, none⟩ = some (.int .i64 (hat hs i).f1) := by rw [← add0_]; exact hcc 1 _ rfl
  constructor
  · rw [add0_]; exact x0
  · rw [add0_]; exact x1
  · rw [add0_]; exact blk_frozen hcur _
  · rw [add0_]; exact blk_frozen hcur _
  · intro u
    rw [add0_]
    refine Eq.trans ?_ x1
    have hne : (⟨gb, i * 2, none⟩ : Addr) ≠ ⟨gb, i * 2 + 1, none⟩ := fun h => by
      have := congrArg Addr.off h
      simp at this
    exact World.cell?_setCell_other _ _ _ _ hne
  · intro p t
    rw [add0_]
    have h1 := (Kd.R_seg (okp := fun _ => False) h (i : Int) (by omega) (by omega) (c := [.int .i64 (hat hs i).f0, .int .i64 (hat hs i).f1]) (seg := [.int .i64 p, .int .i64 t]) (j := 0) rfl (fun j u hu => by
      rcases j with _ | _ | j
      · cases hu; exact x0
      · cases hu; exact x1
      · simp at hu) (by show 0 + 2 ≤ 2; omega) (x' := ⟨p, t⟩) (k40_mkM _ _ _ _) (fun _ hk => hk.elim)).1
    have hs1 := blk_set hcur (i * 2) (.int .i64 p)
    exact ⟨h1, ((Below.refl base W).setCell (p := ⟨gb, i * 2, none⟩) hgb _).setCell (p := ⟨gb, i * 2 + 1, none⟩) hgb _, ((Keeps.refl [40] W).set hcur (by decide) _ _).set hs1 (by decide) _ _⟩
theorem St.keeps {w W W1 : World} {g : Nat} {most : Int} {ps : List S108} {n : Int} (h : St w W g most ps n) (hb : Below w.heap.size W W1) (hk : Keeps [40] W W1) : St w W1 g most ps n := ⟨h.pl.keeps hk ⟨by decide, by decide⟩, h.bl.trans hb⟩
theorem keeps_app40 {wr w8 : World} {base : Nat} {v : Value} {xs : List S40} (hr : HR wr base v xs) (hg : wr.grownBy w8 v.ownBlock) : Keeps [40] wr w8 := ⟨hg.size, fun k cs t fr hk ht => hg.block k (blk_lt hk) (by
  intro he
  obtain ⟨_, inner, ho, _⟩ := hr
  obtain ⟨cells, hc⟩ := own_typed ho k he.symm
  rw [hc] at hk
  injection hk with hk
  injection hk with _ hk
  subst hk
  exact ht (by simp))⟩
theorem below_app40 {wr w8 : World} {base : Nat} {v : Value} {xs : List S40} (hr : HR wr base v xs) (hb : base ≤ wr.heap.size) (hg : wr.grownBy w8 v.ownBlock) : Below base wr w8 := pw_below_grown (Below.refl base wr) _ hb hg (fun k hk => by
    rcases Kd.R_base2 hr with h | ⟨q, h, hq⟩
    · rw [h] at hk; cases hk
    · rw [h] at hk; injection hk with hk; omega)
theorem i64_of_wf {x : Int} (h : (Lit.int .i64 x).wf = true) : -9223372036854775808 ≤ x ∧ x ≤ 9223372036854775807 := by
  simp [Lit.wf, IntKind.min, IntKind.max, IntKind.signed, IntKind.bits] at h
  omega
def InRow (w : World) (a : Option Addr) (len cap : Nat) (zs : List Int) : Prop :=
  (a = none ∧ len = 0 ∧ cap = 0 ∧ zs = []) ∨
  ∃ x, a = some x ∧ len ≤ cap ∧ cap ≤ maxLen ∧ zs.length = cap ∧ (∀ i, i < zs.length → w.cell? (x.add i) = some (.int .i64 (zs.getD i 0))) ∧ ∀ n ∈ zs, (Lit.int .i64 n).wf = true
theorem InRow.below {w W : World} {a : Option Addr} {len cap : Nat} {zs : List Int} (h : InRow w a len cap zs) (hb : Below w.heap.size w W) : InRow W a len cap zs := by
  rcases h with h | ⟨x, h1, h2, h3, h4, h5, h6⟩
  · exact .inl h
  · exact .inr ⟨x, h1, h2, h3, h4, fun i hi => (hb.cell (cell_lt (h5 i hi))).trans (h5 i hi), h6⟩
theorem InRow.at_ {w : World} {a : Option Addr} {len cap : Nat} {zs : List Int} (h : InRow w a len cap zs) (i : Nat) (hi : i < len) : ∃ x n, a = some x ∧ w.cell? (x.add i) = some (.int .i64 n) ∧ -9223372036854775808 ≤ n ∧ n ≤ 9223372036854775807 := by
  rcases h with ⟨_, h, _⟩ | ⟨x, h1, h2, h3, h4, h5, h6⟩
  · omega
  · refine ⟨x, zs.getD i 0, h1, h5 i (by omega), ?_⟩
    have hm : zs.getD i 0 ∈ zs := by
      have e : zs.getD i 0 = zs[i]'(by omega) := by simp [show i < zs.length by omega]
      rw [e]
      exact List.getElem_mem _
    exact i64_of_wf (h6 _ hm)
theorem plc_set_ne {ps : List S108} {i k : Nat} (h : i ≠ k) (x : S108) : plc (ps.set i x) k = plc ps k := by simp [plc, List.getElem?_set_ne h]
theorem plc_snoc {ps : List S108} {k : Nat} (x : S108) (h : k < ps.length) : plc (ps ++ [x]) k = plc ps k := by simp [plc, List.getElem?_append_left h]
theorem plc_last (ps : List S108) (x : S108) : plc (ps ++ [x]) ps.length = x := by simp [plc]
theorem hat_snoc {hs : List S40} {k : Nat} (x : S40) (h : k < hs.length) : hat (hs ++ [x]) k = hat hs k := by simp [hat, List.getElem?_append_left h]
theorem hat_last (hs : List S40) (x : S40) : hat (hs ++ [x]) hs.length = x := by simp [hat]
theorem grow0_in {ps : List S108} {i : Nat} (h : i < ps.length) : grow0 ps i = ps := if_pos h
theorem turnOf_in {ps : List S108} {i : Nat} (h : i < ps.length) : turnOf ps i = (plc ps i).f0 + 1 := by unfold turnOf; rw [grow0_in h]
theorem grow0_out (ps : List S108) : grow0 ps ps.length = ps ++ [⟨0, false⟩] := if_neg (Nat.lt_irrefl _)
theorem turnOf_out (ps : List S108) : turnOf ps ps.length = 1 := by unfold turnOf; rw [grow0_out, plc_last]; rfl
structure Als (ps : List S108) (hs : List S40) (c : Int) (j : Nat) : Prop where
  lp : ps.length = j
  lh : hs.length = j
  tk : ∀ k, k < j → (plc ps k).f1 = true
  eh : ∀ k, k < j → hat hs k = ⟨(k : Int), (plc ps k).f0⟩
  t1 : ∀ k, k < j → 1 ≤ (plc ps k).f0 ∧ (plc ps k).f0 ≤ 1 + c
theorem Als.zero : Als [] [] 0 0 := ⟨rfl, rfl, fun k h => absurd h (by omega), fun k h => absurd h (by omega), fun k h => absurd h (by omega)⟩
theorem Als.snoc {ps : List S108} {hs : List S40} {j : Nat} (h : Als ps hs 0 j) : Als (ps ++ [⟨1, true⟩]) (hs ++ [⟨(j : Int), 1⟩]) 0 (j + 1) := by
  have hp := h.lp
  have hh := h.lh
  have key : ∀ k, k < j + 1 → (plc (ps ++ [⟨1, true⟩]) k).f1 = true ∧ hat (hs ++ [⟨(j : Int), 1⟩]) k = ⟨(k : Int), (plc (ps ++ [⟨1, true⟩]) k).f0⟩ ∧ 1 ≤ (plc (ps ++ [⟨1, true⟩]) k).f0 ∧ (plc (ps ++ [⟨1, true⟩]) k).f0 ≤ 1 + 0 := by
    intro k hk
    rcases Nat.lt_or_ge k j with hlt | hge
    · rw [plc_snoc _ (by omega), hat_snoc _ (by omega)]
      exact ⟨h.tk k hlt, h.eh k hlt, h.t1 k hlt⟩
    · obtain rfl : k = j := by omega
      have e1 : plc (ps ++ [⟨1, true⟩]) k = ⟨1, true⟩ := by rw [← hp]; exact plc_last _ _
      have e2 : hat (hs ++ [⟨(k : Int), 1⟩]) k = ⟨(k : Int), 1⟩ := by
        have := hat_last hs ⟨(k : Int), 1⟩
        rw [hh] at this
        exact this
      rw [e1, e2]
      exact ⟨rfl, rfl, by decide, by decide⟩
  exact ⟨by simp [hp], by simp [hh], fun k hk => (key k hk).1, fun k hk => (key k hk).2.1, fun k hk => (key k hk).2.2⟩
theorem Als.up {ps : List S108} {hs : List S40} {c d : Int} {j : Nat} (h : Als ps hs c j) (hd : c ≤ d) : Als ps hs d j := ⟨h.lp, h.lh, h.tk, h.eh, fun k hk => ⟨(h.t1 k hk).1, by have := (h.t1 k hk).2; omega⟩⟩
theorem hasB_of {ps : List S108} {i : Nat} {t : Int} (hi : i < ps.length) (h1 : (plc ps i).f1 = true) (h2 : (plc ps i).f0 = t) : hasB ps (i : Int) t = true := by
  unfold hasB
  rw [Int.toNat_natCast, h1, h2]
  simp [hi]
def freed (ps : List S108) (i : Nat) : List S108 := ps.set i ⟨(plc ps i).f0, false⟩
theorem freed_len (ps : List S108) (i : Nat) : (freed ps i).length = ps.length := List.length_set
theorem plc_freed {ps : List S108} {i : Nat} (h : i < ps.length) : plc (freed ps i) i = ⟨(plc ps i).f0, false⟩ := plc_set h _
theorem plc_freed_ne {ps : List S108} {i k : Nat} (h : i ≠ k) : plc (freed ps i) k = plc ps k := plc_set_ne h _
end Go.Proofs.YtphaaagcdjpceaaDoor
