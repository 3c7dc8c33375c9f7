/- desk: wrong. -/
import Derived.Test.YtphaaagcdjpceaaDoorPq0
namespace Go.Proofs.YtphaaagcdjpceaaDoor
open Go.RowKit Go.Extern.Stop Go.Stop Go.Extern Go.Proofs.YtphaaagcdjpceaaDoorW.PrintWords Go.Proofs.YtphaaagcdjpceaaDoorW.PrintLast Go.Proofs.YtphaaagcdjpceaaDoorW.PrintMore
set_option linter.unusedVariables false
set_option maxHeartbeats 4000000 in
set_option maxRecDepth 100000 in
theorem wrongd_calls (n p t : Int) (w : World) (hG : Good w) (hp : -9223372036854775808 ≤ p ∧ p ≤ 9223372036854775807) : Calls Tryd.prog 62 #[.int .i64 n, .agg #[.int .i64 p, .int .i64 t]] w fun e w' => ∃ k, e = .returned (.iface 179 (.pointer (some ⟨k, 0, none⟩))) ∧ Joined w' k n ∧ Below w.heap.size w w' := by
  have B1 := below_alloc (Below.refl w.heap.size w) (.cells #[.int .i64 p, .int .i64 t] 40)
  have hn := heap_alloc_new w (.cells #[.int .i64 p, .int .i64 t] 40)
  have k0 := (blk_cell hn 0).trans (show _ = some (Value.int .i64 p) from rfl)
  have HG := Lib.hid (hG.below B1)
  have HB1 := Lib.hid B1
  have HI := Lib.hid hp
  clear B1 hG hp hn
  go_enter Tryd.func62, Tryd.ntmps62
  go_wp2_with (fail)
  generalize w.alloc (.cells #[.int .i64 p, .int .i64 t] 40) = w1 at *
  go_at_call 52
  (with_reducible refine (itoa2 p HI.out _ HG.out).mono ?_)
  rintro e w2 ⟨s, rfl, hs, hb⟩
  have hadd : ∀ w, (Op.stringOp .add { data := #[115, 101, 115, 115, 105, 111, 110, 32] } (s : ByteArray)).run Tryd.prog w = .ok (.string ({ data := #[115, 101, 115, 115, 105, 111, 110, 32] } ++ s)) w := fun w => run_string_add_sum w _ _ (by have : (({ data := #[115, 101, 115, 115, 105, 111, 110, 32] } : ByteArray)).size = 8 := rfl; omega)
  have HB2 := Lib.hid (below_step HB1.out hb)
  clear hb
  go_wp2_with (fail)
  generalize ({ data := #[115, 101, 115, 115, 105, 111, 110, 32] } : ByteArray) ++ s = tx at *
  obtain ⟨tx⟩ := tx
  have B3 := below_alloc (Below.refl w2.heap.size w2) (.cells #[.string ⟨tx⟩] 184)
  have B4 := below_alloc B3 (.cells #[.iface 182 (.pointer (some ⟨w2.heap.size, 0, none⟩)), .iface 26 (.int .i64 n)] 31)
  have hn := heap_alloc_new (w2.alloc (.cells #[.string ⟨tx⟩] 184)) (.cells #[.iface 182 (.pointer (some ⟨w2.heap.size, 0, none⟩)), .iface 26 (.int .i64 n)] 31)
  rw [World.size_alloc] at hn
  have HN := Lib.hid hn; have HB4 := Lib.hid (below_step HB2.out B4)
  clear B3 B4 hn
  go_at_call 73
  (with_reducible refine (new_calls tx _).mono ?_)
  rintro e w3 ⟨rfl, rfl⟩
  go_wp2_with (fail)
  go_at_call 72
  (with_reducible refine (join_calls 182 26 (.pointer (some ⟨w2.heap.size, 0, none⟩)) (.int .i64 n) (w2.heap.size + 1) _ ((blk_cell HN.out 0).trans rfl) ((blk_cell HN.out 1).trans rfl) (blk_lt HN.out)).mono ?_)
  rintro e w5 ⟨k, m, rfl, hk, hm, hb⟩
  have HJ : Hid (Joined w5 k n) := ⟨m, _, hk, hm⟩
  have HB5 := Lib.hid (below_step HB4.out hb)
  clear hk hm hb
  go_wp2
  go_ret
  exact ⟨k, rfl, HJ.out, HB5.out⟩
end Go.Proofs.YtphaaagcdjpceaaDoor
