/- pool.Has, pool.Free. -/
import Derived.Test.YtphaaagcdjpceaaDoorPo4
namespace Go.Proofs.YtphaaagcdjpceaaDoor
open Go.RowKit Go.Extern.Stop Go.Stop Go.Extern Go.Proofs.YtphaaagcdjpceaaDoorW.PrintWords Go.Proofs.YtphaaagcdjpceaaDoorW.PrintLast Go.Proofs.YtphaaagcdjpceaaDoorW.PrintMore
set_option linter.unusedVariables false
/-- Whether a handle's place is taken so. -/
def hasB (ps : List S108) (p t : Int) : Bool := decide (0 ≤ p) && (decide (p < (ps.length : Int)) && ((plc ps p.toNat).f1 && ((plc ps p.toNat).f0 == t)))
set_option maxHeartbeats 4000000 in
set_option maxRecDepth 100000 in
theorem has_calls (g base : Nat) (most n : Int) (ps : List S108) (p t : Int) (w : World) (h : PL w base g most ps n) : Calls Tryd.prog 22 #[.pointer (some ⟨g, 0, none⟩), .agg #[.int .i64 p, .int .i64 t]] w fun e w' => e = .returned (.bool (hasB ps p t)) ∧ Below w.heap.size w w' := by
  obtain ⟨_, A, c, h1, h2⟩ := h
  have hlt := blk_lt h1
  have B1 := below_alloc (Below.refl w.heap.size w) (.cells #[.int .i64 p, .int .i64 t] 40)
  have c1 := (B1.cell (p := ⟨g, 1, none⟩) hlt).trans ((blk_cell h1 1).trans (show _ = some (Value.slice A ps.length c) from rfl))
  have hC := Lib.hid (Kd.R_reads' (Kd.R_below h2 B1)).2.2
  have HB1 := Lib.hid B1
  clear h1 h2 hlt B1
  go_enter Tryd.func22, Tryd.ntmps22
  by_cases p0 : 0 ≤ p
  · have d0 : decide (0 ≤ p) = true := decide_eq_true p0
    by_cases p1 : p < (ps.length : Int)
    · have d1 : decide (p < (ps.length : Int)) = true := decide_eq_true p1
      obtain ⟨i, rfl⟩ : ∃ i : Nat, p = (i : Int) := ⟨p.toNat, by omega⟩
      have hi : i < ps.length := by omega
      obtain ⟨ad, rfl, x0, x1⟩ := at_108 hC.out i hi
      have e : hasB ps (i : Int) t = ((plc ps i).f1 && ((plc ps i).f0 == t)) := by
        unfold hasB
        rw [d0, d1, Int.toNat_natCast]
        rfl
      rw [e]
      generalize plc ps i = x at *
      obtain ⟨x0', x1'⟩ := x
      cases x1'
      · go_wp2_with (fail)
        go_quiet (fail)
        rename_i nq
        go_wp2
        go_ret
        exact ⟨rfl, pw_below_drewN HB1.out nq⟩
      · go_wp2_with (fail)
        go_quiet (fail)
        rename_i nq
        go_wp2
        go_ret
        exact ⟨rfl, pw_below_drewN HB1.out nq⟩
    · have d1 : decide (p < (ps.length : Int)) = false := decide_eq_false p1
      have e : hasB ps p t = false := by
        unfold hasB
        rw [d1, Bool.false_and, Bool.and_false]
      rw [e]
      go_wp2_with (fail)
      go_quiet (fail)
      rename_i nq
      go_wp2
      go_ret
      exact ⟨rfl, pw_below_drewN HB1.out nq⟩
  · have d0 : decide (0 ≤ p) = false := decide_eq_false p0
    have e : hasB ps p t = false := by
      unfold hasB
      rw [d0, Bool.false_and]
    rw [e]
    go_wp2_with (fail)
    go_quiet (fail)
    rename_i nq
    go_wp2
    go_ret
    exact ⟨rfl, pw_below_drewN HB1.out nq⟩
end Go.Proofs.YtphaaagcdjpceaaDoor
