/- slices.Clone of bytes. -/
import Derived.Test.YtphaaagcdjpceaaDoorDk1
namespace Go.Proofs.YtphaaagcdjpceaaDoor
open Go.RowKit Go.Extern.Stop Go.Stop Go.Extern Go.Proofs.YtphaaagcdjpceaaDoorW.PrintWords Go.Proofs.YtphaaagcdjpceaaDoorW.PrintLast Go.Proofs.YtphaaagcdjpceaaDoorW.PrintMore
set_option linter.unusedVariables false
theorem info5 : (Tryd.prog.info? 5).map (fun i => (i.zero, i.size, i.bytes)) = some (some (.int .u8 0), 1, 1) := by kernel_rfl
theorem eq80_nil (n c : Nat) (W : World) : (binOp .eql 80 (.slice none n c) (.slice none 0 0)).run Tryd.prog W = .ok (.bool true) W := by kernel_rfl
theorem eq80_some (ad : Addr) (n c : Nat) (W : World) : (binOp .eql 80 (.slice (some ad) n c) (.slice none 0 0)).run Tryd.prog W = .ok (.bool false) W := by kernel_rfl
attribute [local go_sem] eq80_nil eq80_some
set_option maxRecDepth 100000 in
theorem clone_nil (c : Nat) (W : World) : Calls Tryd.prog 63 #[.slice none 0 c] W fun e w' => e = .returned (.slice none 0 0) ∧ Below W.heap.size W w' := by
  go_enter Tryd.func63, Tryd.ntmps63
  go_wp2
  go_ret
  exact ⟨rfl, Below.refl _ _⟩
set_option maxHeartbeats 2000000 in
set_option maxRecDepth 100000 in
theorem clone_some (ad : Addr) (c : Nat) (bs : List Int) (W : World) (hc : Kd.C (Kd.int .u8) W (some ad) bs.length bs) (hl : bs.length ≤ 100000) : Calls Tryd.prog 63 #[.slice (some ad) bs.length c] W fun e w' => ∃ v', e = .returned v' ∧ Kd.R (Kd.int .u8) 5 w' W.heap.size (fun _ => True) v' bs ∧ Below W.heap.size W w' := by
  have HC := Lib.hid hc
  have HL := Lib.hid hl
  clear hc hl
  have HB := Lib.hid (Below.refl W.heap.size W)
  go_enter Tryd.func63, Tryd.ntmps63
  go_wp2_with (first | ((with_reducible refine gate_dst (N := 5) rfl ?_); refine Kd.R_lit (Kd.int .u8) W.heap.size 5 ?hg (N := 5) ?hd (w0 := W) (xs := ([] : List Int)) (inner := []) (ok := fun _ => True) (okp := fun _ => True) ?hr ?hp (fun _ hk => hk) trivial HB.out (Nat.le_refl _) (by simp) ?_; (case hd => rfl); (case hg => rfl); (case hr => first | (go_simp; done) | (go_simp; rfl)); (case hp => exact (Reps.none _ _)); intro v1 w1 ho hb hg_ hnew_; have HO := Lib.hid ho; have HB1 := Lib.hid hb; clear hg_ hnew_ ho hb) | ((with_reducible refine gate_builtin (b := .append) (xs := #[.tmp 5, .tmp 6]) rfl ?_); refine Kd.R_append_rows (Kd.int .u8) (w0 := W) W.heap.size rfl (.tmp 5) (.tmp 6) 80 5 (.int .u8 0) 1 rfl Tryd.underlying80 info5 rfl (by decide) (by decide) _ [] bs _ _ _ (fun _ => True) (fun _ => False) rfl rfl HO.out (Kd.C_below HC.out HB1.out) (fun _ _ h => h) (fun _ h => h.elim) (fun _ _ => trivial) HB1.out (below_size HB1.out) (by have := HL.out; simp only [List.length_nil]; omega) ?_; intro v2 w2 ho hb hg_ hnew_; have HO2 := Lib.hid ho; have HB2 := Lib.hid hb; clear hg_ hnew_ ho hb))
  go_ret
  exact ⟨_, rfl, HO2.out, HB2.out⟩
end Go.Proofs.YtphaaagcdjpceaaDoor
