import Derived.Test.YtlnhhamfmnjapaaWd3
namespace Go.Proofs.Ytlnhhamfmnjapaa
open Go.RowKit Go.Proofs.YtlnhhamfmnjapaaW.PrintWords Go.Proofs.YtlnhhamfmnjapaaW.PrintLast Go.Proofs.YtlnhhamfmnjapaaW.PrintMore
open PUnitRounds PUnitRounds.U
set_option linter.unusedVariables false
def awkL : List Int := [0, 0, 0, 0, 0, 0, 0, 0, 0, 1, 40, 0, 0, 0, 0, 0, 0, 1, 30, 0, 0, 0, 0, 0, 0, 0, 0, 0, 0, 1, 10, 1, 2, 3, 4, 0, 0, 0, 0, 0, 0, 0, 0]
def hgtL (n : Int) : List Int := [0, 0, 0, 0, 0, 0, 0, 0, 0, 0, 0, 2, n, 0, 0, 0, 0, 0, 0, 0, 0, 0, 0, 0, 0, 0, 0, 0, 0, 0, 0, 0, 0, 0, 0, 0, 0, 0, 0, 0, 0, 0, 0]
def zerL : List Int := [0, 0, 0, 0, 0, 0, 0, 0, 0, 0, 0, 0, 0, 0, 0, 0, 0, 0, 0, 0, 0, 0, 0, 0, 0, 0, 0, 0, 0, 0, 0, 0, 0, 0, 0, 0, 0, 0, 0, 0, 0, 0, 0]
theorem exec_build_of (ρ : Operand → Value) (dst : Option Tmp) (parts : Array (Nat × Operand)) (ps : Array (Nat × Value)) (ty : TypeId) (pos : String) (after : Array Edge) (guard : Option (Nat × Bool)) (W : World) (cs : Array Value)
    (hm : parts.map (fun (i, x) => (i, ρ x)) = ps) (hb : (Instr.build 27 ps).run Try.prog W = .ok (.agg cs) W) :
    (execOp ρ { dst := dst, op := .build 27 parts, type := ty, pos := pos, after := after, guard := guard }).run Try.prog W = .ok (.value (.agg cs)) W := by
  unfold execOp
  simp only [hm, Sem.run_bind, Sem.run_pure, Result.andThen_ok, hb]
theorem exec_build_awk (ρ : Operand → Value) (dst : Option Tmp) (x1 x2 x3 x4 : Operand) (ty : TypeId) (pos : String) (after : Array Edge) (guard : Option (Nat × Bool)) (W : World)
    (h1 : ρ x1 = .agg #[.int .i64 1, .int .i64 40]) (h2 : ρ x2 = .agg #[.int .i64 0, .int .i64 0, .int .i64 0, .int .i64 0, .int .i64 0, .int .i64 0, .int .i64 1, .int .i64 10]) (h3 : ρ x3 = .agg #[.int .i64 1, .int .i64 2, .int .i64 3, .int .i64 4]) (h4 : ρ x4 = .agg #[.int .i64 1, .int .i64 30]) :
    (execOp ρ { dst := dst, op := .build 27 #[(9, x1), (16, x2), (17, x3), (13, x4)], type := ty, pos := pos, after := after, guard := guard }).run Try.prog W = .ok (.value (.agg (styC awkL))) W :=
  exec_build_of ρ dst _ #[(9, ρ x1), (16, ρ x2), (17, ρ x3), (13, ρ x4)] ty pos after guard W _ (by simp) (by rw [h1, h2, h3, h4]; exact run_build W 27 _ _ (by kernel_rfl))
theorem build_hgt (n : Int) (W : World) : (Instr.build 27 #[(10, .agg #[.int .i64 2, .int .i64 n])]).run Try.prog W = .ok (.agg (styC (hgtL n))) W := run_build W 27 _ _ (by kernel_rfl)
theorem exec_build_hgt (ρ : Operand → Value) (dst : Option Tmp) (x1 : Operand) (ty : TypeId) (pos : String) (after : Array Edge) (guard : Option (Nat × Bool)) (W : World)
    (h1 : ρ x1 = .agg #[.int .i64 2, .int .i64 (n1 (ρ x1))]) :
    (execOp ρ { dst := dst, op := .build 27 #[(10, x1)], type := ty, pos := pos, after := after, guard := guard }).run Try.prog W = .ok (.value (.agg (styC (hgtL (n1 (ρ x1)))))) W :=
  exec_build_of ρ dst _ #[(10, ρ x1)] ty pos after guard W _ (by simp) (by have := build_hgt (n1 (ρ x1)) W; rw [← h1] at this; exact this)
theorem exec_build_zer (ρ : Operand → Value) (dst : Option Tmp) (ty : TypeId) (pos : String) (after : Array Edge) (guard : Option (Nat × Bool)) (W : World) :
    (execOp ρ { dst := dst, op := .build 27 #[], type := ty, pos := pos, after := after, guard := guard }).run Try.prog W = .ok (.value (.agg (styC zerL))) W :=
  exec_build_of ρ dst _ #[] ty pos after guard W _ (by simp) (run_build W 27 _ _ (by kernel_rfl))
theorem okSty_awk : okSty (.agg (styC awkL)) = true := okSty_list _ rfl
attribute [local go_sem ↓] exec_load27 exec_store27 exec_alloc27 exec_build_awk exec_build_hgt exec_build_zer
attribute [local go_sem] sty_drew row_drew z27_size cells_agg n1_two n1_four eq29_same okSty_awk
theorem near_awk (i : Nat) : Near (lstF awkL i) := near_list _ (fun y hy => by simp [awkL] at hy; unfold Near; omega) i
theorem near_zer (i : Nat) : Near (lstF zerL i) := near_list _ (fun y hy => by simp [zerL] at hy; unfold Near; omega) i
theorem awk_edges (W : World) : Calls Try.prog 19 #[.agg (styC awkL)] W fun e w' => e = .returned (.tuple #[.int .i64 1, .int .i64 2, .int .i64 3, .int .i64 4]) ∧ Below W.heap.size W w' := edges_cs (styC awkL) (lstF awkL) (isSty_list _ rfl) (fun i _ _ => near_awk i) W
theorem awk_width (W : World) : Calls Try.prog 13 #[.agg (styC awkL), .int .i64 100] W fun e w' => e = .returned (.agg #[.int .i64 10, .int .i64 30, .int .i64 54]) ∧ Below W.heap.size W w' := by
  have h := width_cs (styC awkL) (lstF awkL) (isSty_list _ rfl) (fun i _ => near_awk i) 100 ⟨by decide, by decide⟩ W
  have e : widthV (lstF awkL) 100 = .agg #[.int .i64 10, .int .i64 30, .int .i64 54] := by kernel_rfl
  rw [e] at h
  exact h
theorem zer_width (W : World) : Calls Try.prog 13 #[.agg (styC zerL), .int .i64 50] W fun e w' => e = .returned (.agg #[.int .i64 0, .int .i64 50, .int .i64 0]) ∧ Below W.heap.size W w' := by
  have h := width_cs (styC zerL) (lstF zerL) (isSty_list _ rfl) (fun i _ => near_zer i) 50 ⟨by decide, by decide⟩ W
  have e : widthV (lstF zerL) 50 = .agg #[.int .i64 0, .int .i64 50, .int .i64 0] := by kernel_rfl
  rw [e] at h
  exact h
theorem awk_height (W : World) : Calls Try.prog 15 #[.agg (styC (hgtL 5000)), .int .i64 80] W fun e w' => e = .returned (.tuple #[.int .i64 40, .bool true]) ∧ Below W.heap.size W w' := by
  have h := height_pct (styC (hgtL 5000)) (lstF (hgtL 5000)) (isSty_list _ rfl) rfl 80 (by decide) W
  have e : heightN (lstF (hgtL 5000)) 80 = 40 := by kernel_rfl
  rw [e] at h
  exact h
theorem no_height (n : Int) (W : World) : Calls Try.prog 15 #[.agg (styC (hgtL n)), .int .i64 (-1)] W fun e w' => e = .returned (.tuple #[.int .i64 0, .bool false]) ∧ Below W.heap.size W w' :=
  height_neg (styC (hgtL n)) (lstF (hgtL n)) (isSty_list _ rfl) rfl (-1) (by decide) W
theorem field29_1 (a b c : Int) (W : World) : (Instr.field 29 (.agg #[.int .i64 a, .int .i64 b, .int .i64 c]) 1).run Try.prog W = .ok (.int .i64 b) W := by kernel_rfl
attribute [local go_sem] field29_1
theorem heap_at (W : World) (o : Obj) (H : Nat) (h : W.heap.size = H) : (W.alloc o).heap[H]? = some o := by
  subst h
  exact heap_alloc_new W o
set_option maxHeartbeats 4000000 in
set_option maxRecDepth 100000 in
theorem awake_calls (w : World) : Calls Try.prog 14 #[] w fun e w' => e = .returned (.bool true) ∧ Below w.heap.size w w' := by
  go_enter Try.func14, Try.ntmps14
  go_upto_region 2 with (fail)
  go_cut [2] (fun v2 wc => ∃ g, v2 = .pointer (some ⟨g, 0, none⟩) ∧ Hid (StyIn wc g (styC awkL)) ∧ Hid (Below w.heap.size w wc))
  case first =>
    go_wp2_with (go_at_call 43; (with_reducible refine (fix_awake _ _).mono ?_); rintro e w1 ⟨rfl, rfl⟩)
    go_meet
    case rel => exact ⟨_, rfl, heap_at _ _ _ (by simp), by repeat (first | exact Below.refl _ _ | apply below_alloc)⟩
  case rest =>
    obtain ⟨g, rfl, HST, HB⟩ := hcut
    obtain ⟨hst, hrow⟩ := sty_of HST.out (show (styC awkL).size = 43 from (isSty_list awkL rfl).1)
    go_upto_region 4 with (go_at_call 19; (with_reducible refine (awk_edges _).mono ?_); rintro e W2 ⟨rfl, hb⟩; have HST2 := Lib.hid (HST.out.below hb); have HB2 := Lib.hid (below_step HB.out hb); clear hb)
    clear hst hrow HST HB
    go_upto_region 5 with (go_at_call 15; (with_reducible refine (awk_height _).mono ?_); rintro e W3 ⟨rfl, hb⟩; have HST3 := Lib.hid (HST2.out.below hb); have HB3 := Lib.hid (below_step HB2.out hb); clear hb)
    clear HST2 HB2
    go_upto_region 6 with (go_at_call 15; (with_reducible refine (no_height 5000 _).mono ?_); rintro e W4 ⟨rfl, hb⟩; have HST4 := Lib.hid (HST3.out.below hb); have HB4 := Lib.hid (below_step HB3.out hb); clear hb)
    clear HST3 HB3
    obtain ⟨hst, hrow⟩ := sty_of HST4.out (show (styC awkL).size = 43 from (isSty_list awkL rfl).1)
    go_wp2_with (fail)
    go_at_call 13
    (with_reducible refine (awk_width _).mono ?_)
    rintro e W5 ⟨rfl, hb⟩
    have HB5 := Lib.hid (below_step HB4.out hb)
    clear hb HB4 hst hrow
    go_wp2_with (fail)
    go_at_call 13
    (with_reducible refine (zer_width _).mono ?_)
    rintro e W6 ⟨rfl, hb⟩
    have HB6 := Lib.hid (below_step HB5.out hb)
    clear hb HB5
    go_wp2_with (fail)
    go_ret
    exact ⟨rfl, HB6.out⟩
end Go.Proofs.Ytlnhhamfmnjapaa
