/- Errors: New, Join, wrong. -/
import Derived.Test.YtphaaagcdjpceaaDoorShelf
import Derived.Test.YtphaaagcdjpceaaDoorWMore
import Derived.Test.YtphaaagcdjpceaaDoorWEqStruct
import Derived.WalkKit
import Derived.WalkSpells
import Derived.WalkLawsBesides
import Derived.ProofKit
import Derived.OpenShut
import Derived.ChangeOld
import Derived.Below
import Derived.Lib.Hide
import Derived.LaidEql
import Derived.Stop.Asserts
import Derived.RowKitTokens
namespace Go.Proofs.YtphaaagcdjpceaaDoor
open Go.RowKit Go.Extern.Stop Go.Stop Go.Extern Go.Proofs.YtphaaagcdjpceaaDoorW.PrintWords Go.Proofs.YtphaaagcdjpceaaDoorW.PrintLast Go.Proofs.YtphaaagcdjpceaaDoorW.PrintMore
set_option linter.unusedVariables false

theorem new_calls (s : Array UInt8) (w : World) : Calls Tryd.prog 73 #[.string ⟨s⟩] w fun e w' => e = .returned (.iface 182 (.pointer (some ⟨w.heap.size, 0, none⟩))) ∧ w' = w.alloc (.cells #[.string ⟨s⟩] 184) := by
  go_enter Tryd.func73, Tryd.ntmps73
  go_wp2
  go_ret
  exact ⟨rfl, rfl⟩
theorem mk2 (w : World) : (Instr.makeSlice 177 (.int .i64 0) (.int .i64 2)).run Tryd.prog w = .ok (.slice (some ⟨w.heap.size, 0, none⟩) 0 2) (w.alloc (.cells #[.nilIface, .nilIface] 31)) := by kernel_rfl
attribute [local go_sem] mk2
theorem heap_old (W : World) (o : Obj) (i : Nat) (h : i < W.heap.size) : (W.alloc o).heap[i]? = W.heap[i]? := Below.heap_alloc W o i h
theorem heap_at (W : World) (o : Obj) (H : Nat) (h : W.heap.size = H) : (W.alloc o).heap[H]? = some o := by
  subst h
  exact heap_alloc_new W o
set_option maxHeartbeats 4000000 in
set_option maxRecDepth 100000 in
theorem join_calls (ta tb : TypeId) (va vb : Value) (g : Nat) (w : World) (h0 : w.cell? ⟨g, 0, none⟩ = some (.iface ta va)) (h1 : w.cell? ⟨g, 1, none⟩ = some (.iface tb vb)) (hg : g < w.heap.size) : Calls Tryd.prog 72 #[.slice (some ⟨g, 0, none⟩) 2 2] w fun e w' => ∃ k m, e = .returned (.iface 179 (.pointer (some ⟨k, 0, none⟩))) ∧ w'.heap[k]? = some (.cells #[.slice (some ⟨m, 0, none⟩) 2 2] 181 (0, 0)) ∧ w'.heap[m]? = some (.cells #[.iface ta va, .iface tb vb] 31 (0, 0)) ∧ Below w.heap.size w w' := by
  go_enter Tryd.func72, Tryd.ntmps72
  go_wp2
  refine wp_loop_rounds 3 ?_
  rw [rounds_succ]
  go_wp2
  rw [rounds_succ]
  go_wp2
  rw [rounds_succ]
  go_upto_region 11 with (fail)
  have k0 : ((w.alloc (.cells #[.nilIface, .nilIface] 31)).alloc (.cells #[.slice (some ⟨w.heap.size, 0, none⟩) 0 2] 181)).cell? ⟨g, 0, none⟩ = some (.iface ta va) := by
    rw [World.cell?_alloc_lt _ _ ⟨g, 0, none⟩ (by simp; omega), World.cell?_alloc_lt _ _ ⟨g, 0, none⟩ hg]; exact h0
  have k1 : ((w.alloc (.cells #[.nilIface, .nilIface] 31)).alloc (.cells #[.slice (some ⟨w.heap.size, 0, none⟩) 0 2] 181)).cell? ⟨g, 1, none⟩ = some (.iface tb vb) := by
    rw [World.cell?_alloc_lt _ _ ⟨g, 1, none⟩ (by simp; omega), World.cell?_alloc_lt _ _ ⟨g, 1, none⟩ hg]; exact h1
  go_wp2
  refine wp_loop_rounds 3 ?_
  rw [rounds_succ]
  go_wp2
  have k2 : (((w.alloc (.cells #[.iface ta va, .nilIface] 31)).alloc (.cells #[.slice (some ⟨w.heap.size, 0, none⟩) 1 2] 181)).alloc (.cells #[.iface ta va] 31)).cell? ⟨g, 1, none⟩ = some (.iface tb vb) := by
    rw [World.cell?_alloc_lt _ _ ⟨g, 1, none⟩ (by simp; omega), World.cell?_alloc_lt _ _ ⟨g, 1, none⟩ (by simp; omega), World.cell?_alloc_lt _ _ ⟨g, 1, none⟩ hg]; exact h1
  clear k0 k1
  rw [rounds_succ]
  go_wp2
  rw [rounds_succ]
  go_wp2
  go_ret
  refine ⟨w.heap.size + 1, w.heap.size, rfl, ?_, ?_, ?_⟩
  · rw [heap_old _ _ _ (by simp <;> omega), heap_old _ _ _ (by simp <;> omega)]; exact heap_at _ _ _ (by simp)
  · rw [heap_old _ _ _ (by simp <;> omega), heap_old _ _ _ (by simp <;> omega), heap_old _ _ _ (by simp <;> omega)]; exact heap_at _ _ _ rfl
  · repeat (first | exact Below.refl _ _ | apply below_alloc)
end Go.Proofs.YtphaaagcdjpceaaDoor
