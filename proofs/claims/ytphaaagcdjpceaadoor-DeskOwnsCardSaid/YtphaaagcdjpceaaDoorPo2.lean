/- errors.as and errors.As at a target of api.Errno, api.Code. -/
import Derived.Test.YtphaaagcdjpceaaDoorPo1
namespace Go.Proofs.YtphaaagcdjpceaaDoor
open Go.RowKit Go.Extern.Stop Go.Stop Go.Extern Go.Proofs.YtphaaagcdjpceaaDoorW.PrintWords Go.Proofs.YtphaaagcdjpceaaDoorW.PrintLast Go.Proofs.YtphaaagcdjpceaaDoorW.PrintMore
set_option linter.unusedVariables false
set_option maxHeartbeats 4000000 in
set_option maxRecDepth 100000 in
theorem as_str (s t a : Addr) (w : World) : Calls Tryd.prog 71 #[.iface 182 (.pointer (some s)), .iface 103 (.pointer (some t)), .agg #[.pointer (some ⟨4, 103, none⟩), .pointer (some a), .int .u64 150], .iface 166 (.agg #[.pointer (some ⟨4, 26, none⟩)])] w fun e w' => e = .returned (.bool false) ∧ w' = w.alloc (.cells #[.pointer (some ⟨4, 103, none⟩), .pointer (some a), .int .u64 150] 149) := by
  have h80 := @run_callFunc_extern Tryd.prog 80 _ ReflectliteType.typeOf Tryd.func80 (by kernel_rfl) (by kernel_rfl) (by kernel_rfl) (by kernel_rfl)
  have h141 := @run_callFunc_extern Tryd.prog 141 _ (ReflectliteType.relation "AssignableTo" ReflectliteType.assignableTo) Tryd.func141 (by kernel_rfl) (by kernel_rfl) (by kernel_rfl) (by kernel_rfl)
  have f1 := typeOf182
  have f2 := methodAssignableTo
  have f3 := assignable182
  have f4 := noAs182
  have f5 := noU182
  have f6 := noL182
  go_enter Tryd.func71, Tryd.ntmps71
  go_wp2
  refine wp_loop_rounds 1 ?_
  rw [rounds_succ]
  go_wp2
  go_ret
  exact ⟨rfl, rfl⟩
set_option maxHeartbeats 4000000 in
set_option maxRecDepth 100000 in
theorem as_num (n : Int) (t a : Addr) (old : Value) (w : World) (ha : w.cell? a = some (.pointer (some t))) (ht : w.cell? t = some old) (hf : w.frozen? t = false) : Calls Tryd.prog 71 #[.iface 26 (.int .i64 n), .iface 103 (.pointer (some t)), .agg #[.pointer (some ⟨4, 103, none⟩), .pointer (some a), .int .u64 150], .iface 166 (.agg #[.pointer (some ⟨4, 26, none⟩)])] w fun e w' => e = .returned (.bool true) ∧ w' = ((w.alloc (.cells #[.pointer (some ⟨4, 103, none⟩), .pointer (some a), .int .u64 150] 149)).alloc (.cells #[.int .i64 n] 26)).setCell t (.int .i64 n) := by
  have h80 := @run_callFunc_extern Tryd.prog 80 _ ReflectliteType.typeOf Tryd.func80 (by kernel_rfl) (by kernel_rfl) (by kernel_rfl) (by kernel_rfl)
  have h141 := @run_callFunc_extern Tryd.prog 141 _ (ReflectliteType.relation "AssignableTo" ReflectliteType.assignableTo) Tryd.func141 (by kernel_rfl) (by kernel_rfl) (by kernel_rfl) (by kernel_rfl)
  have h81 := @run_callFunc_extern Tryd.prog 81 _ (ReflectliteValue.method (ReflectliteValue.valueError "reflectlite.Value.Elem" 0) ReflectliteValue.elem) Tryd.func81 (by kernel_rfl) (by kernel_rfl) (by kernel_rfl) (by kernel_rfl)
  have h68 := @run_callFunc_extern Tryd.prog 68 _ (fun args => ReflectliteValue.unpack (args.getD 0 (.tuple #[]))) Tryd.func68 (by kernel_rfl) (by kernel_rfl) (by kernel_rfl) (by kernel_rfl)
  have h82 := @run_callFunc_extern Tryd.prog 82 _ ReflectliteValue.set Tryd.func82 (by kernel_rfl) (by kernel_rfl) (by kernel_rfl) (by kernel_rfl)
  have f1 := typeOf26
  have f2 := methodAssignableTo
  have f3 := assignable26
  have f4 := valueOf26 n
  have hal : a.block < w.heap.size := by
    rcases Nat.lt_or_ge a.block w.heap.size with h | h
    · exact h
    · simp [World.cell?, Array.getElem?_eq_none h] at ha
  have htl : t.block < w.heap.size := by
    rcases Nat.lt_or_ge t.block w.heap.size with h | h
    · exact h
    · simp [World.cell?, Array.getElem?_eq_none h] at ht
  have el := elemV103 a t (w.alloc (.cells #[.pointer (some ⟨4, 103, none⟩), .pointer (some a), .int .u64 150] 149)) (by rw [World.cell?_alloc_lt _ _ a hal]; exact ha)
  have st := set26 t ⟨w.heap.size + 1, 0, none⟩ n old ((w.alloc (.cells #[.pointer (some ⟨4, 103, none⟩), .pointer (some a), .int .u64 150] 149)).alloc (.cells #[.int .i64 n] 26))
    (by rw [World.cell?_alloc_at _ _ _ _ (by simp)]; rfl)
    (by rw [World.cell?_alloc_lt _ _ t (by simp; omega), World.cell?_alloc_lt _ _ t htl]; exact ht)
    (by rw [World.frozen?_alloc_old _ _ t (by simp; omega), World.frozen?_alloc_old _ _ t (Nat.ne_of_lt htl)]; exact hf)
  go_enter Tryd.func71, Tryd.ntmps71
  go_wp2
  refine wp_loop_rounds 1 ?_
  rw [rounds_succ]
  go_wp2
  go_ret
  exact ⟨rfl, rfl⟩
theorem unwrap_calls (k : Addr) (v : Value) (w : World) (h : w.cell? k = some v) : Calls Tryd.prog 152 #[.pointer (some k)] w fun e w' => e = .returned v ∧ w' = w := by
  go_enter Tryd.func152, Tryd.ntmps152
  go_wp2
  go_ret
  exact ⟨rfl, rfl⟩
end Go.Proofs.YtphaaagcdjpceaaDoor
