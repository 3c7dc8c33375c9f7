-- WRITTEN BY wip/qprint.py (a driver of this session over the print): checked by Lean like any other text
import Derived.Test.YtlcghlcpngafgaaPFreex0
namespace Go.Proofs.Ytlcghlcpngafgaa.PFree
open Go.RowKit Go.Proofs.YtlcghlcpngafgaaW.PrintWords Go.Proofs.YtlcghlcpngafgaaW.PrintLast Go.Proofs.YtlcghlcpngafgaaW.PrintMore
attribute [local go_sem] max2_int min2_int max_two min_two max_three min_three max_four min_four   -- for this text's walks alone
set_option linter.unusedVariables false
set_option linter.unusedSimpArgs false

/-! ### quoinlaw18_Tame: function 27 -/
mutual
def quoinlaw18_Tame.l0 : Nat → List (S39) → Bool → List (S39) → Int → Option ((List (S39)))
  | 0, _, _, _, _ => none
  | k + 1, x0, x1, x5, x6 => if x6 < (x0.length : Int) then (quoinlaw18_Tame.j1 k x0 x1 x5 x6 (decide (x6 < 12))) else (quoinlaw18_Tame.j1 k x0 x1 x5 x6 false)
def quoinlaw18_Tame.j1 : Nat → List (S39) → Bool → List (S39) → Int → Bool → Option ((List (S39)))
  | 0, _, _, _, _, _ => none
  | k + 1, x0, x1, x5, x6, x16 => if x16 = true then (if 0 ≤ x6 then (if x6 < (x0.length : Int) then (if x1 = true then (quoinlaw18_Tame.j2 k x0 x1 x5 x6 200 ((rd_T39 x0 x6).f0) ((rd_T39 x0 x6).f1) ((rd_T39 x0 x6).f2) ((rd_T39 x0 x6).f3) ((rd_T39 x0 x6).f4) ((rd_T39 x0 x6).f5)) else (quoinlaw18_Tame.j2 k x0 x1 x5 x6 8796093022208 ((rd_T39 x0 x6).f0) ((rd_T39 x0 x6).f1) ((rd_T39 x0 x6).f2) ((rd_T39 x0 x6).f3) ((rd_T39 x0 x6).f4) ((rd_T39 x0 x6).f5))) else (none)) else (none)) else (some x5)
def quoinlaw18_Tame.j2 : Nat → List (S39) → Bool → List (S39) → Int → Int → Int → Int → Int → Int → Int → Int → Option ((List (S39)))
  | 0, _, _, _, _, _, _, _, _, _, _, _ => none
  | k + 1, x0, x1, x5, x6, x8, x269000, x269001, x269002, x269003, x269004, x269005 => if x8 = 0 then (none) else (if (wrap64 (IntKind.u64.wrap (Int.tdiv x8 4))) = 0 then (none) else (if (Go.bits .and .i64 (wrap64 (Int.tmod (IntKind.u64.wrap (x269001)) x8)) 1) = 1 then (if (Go.bits .and .i64 (wrap64 (Int.tmod (IntKind.u64.wrap (x269002)) x8)) 3) > 0 then (if x5.length < 2932031007402 then (quoinlaw18_Tame.l0 k x0 x1 (x5 ++ [(⟨wrap64 (Int.tmod (IntKind.u64.wrap (x269000)) x8), 0, (-1), Go.bits .and .i64 x269003 3, Go.bits .and .i64 x269004 3, Int.tmod x269005 (wrap64 (IntKind.u64.wrap (Int.tdiv x8 4)))⟩ : S39)]) (wrap64 (x6 + 1))) else (none)) else (if x5.length < 2932031007402 then (quoinlaw18_Tame.l0 k x0 x1 (x5 ++ [(⟨wrap64 (Int.tmod (IntKind.u64.wrap (x269000)) x8), 0, wrap64 (Int.tmod (IntKind.u64.wrap (x269002)) x8), Go.bits .and .i64 x269003 3, Go.bits .and .i64 x269004 3, Int.tmod x269005 (wrap64 (IntKind.u64.wrap (Int.tdiv x8 4)))⟩ : S39)]) (wrap64 (x6 + 1))) else (none))) else (if (Go.bits .and .i64 (wrap64 (Int.tmod (IntKind.u64.wrap (x269002)) x8)) 3) > 0 then (if x5.length < 2932031007402 then (quoinlaw18_Tame.l0 k x0 x1 (x5 ++ [(⟨wrap64 (Int.tmod (IntKind.u64.wrap (x269000)) x8), wrap64 (Int.tmod (IntKind.u64.wrap (x269001)) x8), (-1), Go.bits .and .i64 x269003 3, Go.bits .and .i64 x269004 3, Int.tmod x269005 (wrap64 (IntKind.u64.wrap (Int.tdiv x8 4)))⟩ : S39)]) (wrap64 (x6 + 1))) else (none)) else (if x5.length < 2932031007402 then (quoinlaw18_Tame.l0 k x0 x1 (x5 ++ [(⟨wrap64 (Int.tmod (IntKind.u64.wrap (x269000)) x8), wrap64 (Int.tmod (IntKind.u64.wrap (x269001)) x8), wrap64 (Int.tmod (IntKind.u64.wrap (x269002)) x8), Go.bits .and .i64 x269003 3, Go.bits .and .i64 x269004 3, Int.tmod x269005 (wrap64 (IntKind.u64.wrap (Int.tdiv x8 4)))⟩ : S39)]) (wrap64 (x6 + 1))) else (none)))))
end
def quoinlaw18_Tame.f (k : Nat) (l0 : List (S39)) (a1 : Bool) : Option ((List (S39))) := quoinlaw18_Tame.l0 k l0 a1 ([] : List (S39)) 0
theorem quoinlaw18_Tame.mono_l : ∀ k, (∀ y0 y1 y2 y3, LeO (quoinlaw18_Tame.l0 k y0 y1 y2 y3) (quoinlaw18_Tame.l0 (k + 1) y0 y1 y2 y3)) ∧ (∀ y0 y1 y2 y3 y4, LeO (quoinlaw18_Tame.j1 k y0 y1 y2 y3 y4) (quoinlaw18_Tame.j1 (k + 1) y0 y1 y2 y3 y4)) ∧ (∀ y0 y1 y2 y3 y4 y5 y6 y7 y8 y9 y10, LeO (quoinlaw18_Tame.j2 k y0 y1 y2 y3 y4 y5 y6 y7 y8 y9 y10) (quoinlaw18_Tame.j2 (k + 1) y0 y1 y2 y3 y4 y5 y6 y7 y8 y9 y10))
  | 0 => ⟨fun _ _ _ _ r h => by simp [quoinlaw18_Tame.l0] at h, fun _ _ _ _ _ r h => by simp [quoinlaw18_Tame.j1] at h, fun _ _ _ _ _ _ _ _ _ _ _ r h => by simp [quoinlaw18_Tame.j2] at h⟩
  | k + 1 => by
    obtain ⟨ih0, ih1, ih2⟩ := quoinlaw18_Tame.mono_l k
    refine ⟨?_, ?_, ?_⟩
    · intro y0 y1 y2 y3
      unfold quoinlaw18_Tame.l0
      repeat' first
      | (with_reducible exact ih0 _ _ _ _)
      | (with_reducible exact ih1 _ _ _ _ _)
      | (with_reducible exact ih2 _ _ _ _ _ _ _ _ _ _ _)
      | (with_reducible exact LeO.refl _)
      | (with_reducible exact LeO.none _)
      | (with_reducible refine LeO.ite ?_ ?_)
      | (with_reducible refine LeO.bind ?_ (fun _ => ?_))
      | exact ih0 _ _ _ _
      | exact ih1 _ _ _ _ _
      | exact ih2 _ _ _ _ _ _ _ _ _ _ _
      | exact LeO.none _
      | refine LeO.ite ?_ ?_
      | refine LeO.bind ?_ (fun _ => ?_)
    · intro y0 y1 y2 y3 y4
      unfold quoinlaw18_Tame.j1
      repeat' first
      | (with_reducible exact ih0 _ _ _ _)
      | (with_reducible exact ih1 _ _ _ _ _)
      | (with_reducible exact ih2 _ _ _ _ _ _ _ _ _ _ _)
      | (with_reducible exact LeO.refl _)
      | (with_reducible exact LeO.none _)
      | (with_reducible refine LeO.ite ?_ ?_)
      | (with_reducible refine LeO.bind ?_ (fun _ => ?_))
      | exact ih0 _ _ _ _
      | exact ih1 _ _ _ _ _
      | exact ih2 _ _ _ _ _ _ _ _ _ _ _
      | exact LeO.none _
      | refine LeO.ite ?_ ?_
      | refine LeO.bind ?_ (fun _ => ?_)
    · intro y0 y1 y2 y3 y4 y5 y6 y7 y8 y9 y10
      unfold quoinlaw18_Tame.j2
      repeat' first
      | (with_reducible exact ih0 _ _ _ _)
      | (with_reducible exact ih1 _ _ _ _ _)
      | (with_reducible exact ih2 _ _ _ _ _ _ _ _ _ _ _)
      | (with_reducible exact LeO.refl _)
      | (with_reducible exact LeO.none _)
      | (with_reducible refine LeO.ite ?_ ?_)
      | (with_reducible refine LeO.bind ?_ (fun _ => ?_))
      | exact ih0 _ _ _ _
      | exact ih1 _ _ _ _ _
      | exact ih2 _ _ _ _ _ _ _ _ _ _ _
      | exact LeO.none _
      | refine LeO.ite ?_ ?_
      | refine LeO.bind ?_ (fun _ => ?_)
theorem quoinlaw18_Tame.mono : ∀ a0 a1 k, LeO (quoinlaw18_Tame.f k a0 a1) (quoinlaw18_Tame.f (k + 1) a0 a1) := by
  intro a0 a1 k
  obtain ⟨ih0, ih1, ih2⟩ := quoinlaw18_Tame.mono_l k
  unfold quoinlaw18_Tame.f
  repeat' first
      | (with_reducible exact ih0 _ _ _ _)
      | (with_reducible exact ih1 _ _ _ _ _)
      | (with_reducible exact ih2 _ _ _ _ _ _ _ _ _ _ _)
      | (with_reducible exact LeO.refl _)
      | (with_reducible exact LeO.none _)
      | (with_reducible refine LeO.ite ?_ ?_)
      | (with_reducible refine LeO.bind ?_ (fun _ => ?_))
      | exact ih0 _ _ _ _
      | exact ih1 _ _ _ _ _
      | exact ih2 _ _ _ _ _ _ _ _ _ _ _
      | exact LeO.none _
      | refine LeO.ite ?_ ?_
      | refine LeO.bind ?_ (fun _ => ?_)
def quoinlaw18_Tame.T9 : Bool × List (List Nat × List Nat) := (true, [([], []), ([0], [0]), ([1], [1]), ([], []), ([2, 3], [2, 3]), ([4], [4]), ([], []), ([6], [6]), ([7], [7]), ([], []), ([8, 9], [8, 9]), ([10], [10]), ([], []), ([12], [12]), ([13], [13]), ([], []), ([15], [15]), ([16], [16]), ([0, 1, 2, 3, 4, 5, 6, 7, 12, 13, 15, 16], []), ([18, 5, 0, 1, 2, 3, 4, 5, 6, 7, 12, 13, 15, 16], [5, 18]), ([0, 1, 2, 3, 4, 5, 6, 7, 8, 9, 10, 11, 12, 13, 15, 16, 18, 19], []), ([20, 11, 19, 0, 1, 2, 3, 4, 5, 6, 7, 8, 9, 10, 11, 12, 13, 15, 16, 18, 19], [11, 20]), ([0, 1, 2, 3, 4, 5, 6, 7, 8, 9, 10, 11, 12, 13, 14, 15, 16, 18, 19, 20, 21], []), ([22, 14, 21, 0, 1, 2, 3, 4, 5, 6, 7, 8, 9, 10, 11, 12, 13, 14, 15, 16, 18, 19, 20, 21], [14, 22]), ([0, 1, 2, 3, 4, 5, 6, 7, 8, 9, 10, 11, 12, 13, 14, 15, 16, 17, 18, 19, 20, 21, 22, 23], []), ([24, 17, 23, 0, 1, 2, 3, 4, 5, 6, 7, 8, 9, 10, 11, 12, 13, 14, 15, 16, 17, 18, 19, 20, 21, 22, 23], [17, 24])])
def quoinlaw18_Tame.B9 : List Nat := [0, 1, 3, 0, 15, 31, 0, 64, 192, 0, 960, 1984, 0, 4096, 12288, 0, 32768, 98304, 110847, 372991, 901119, 1949695, 4063231, 8257535, 16777215, 33554431]
theorem quoinlaw18_Tame.tab9 : rtab .any (opsOf Try.f27 9) = quoinlaw18_Tame.T9 := by kernel_rfl
theorem quoinlaw18_Tame.bits9 : waitsOk quoinlaw18_Tame.T9.2 quoinlaw18_Tame.B9 = true := by kernel_rfl
def quoinlaw18_Tame.T10 : Bool × List (List Nat × List Nat) := (true, [([], []), ([0], [0]), ([1], [1]), ([], []), ([2, 3], [2, 3]), ([4], [4]), ([], []), ([6], [6]), ([], []), ([8], [8]), ([9], [9]), ([7, 10], [7, 10]), ([0, 1, 2, 3, 4, 5, 6, 7], []), ([12, 5, 0, 1, 2, 3, 4, 5, 6, 7], [5, 12]), ([0, 1, 2, 3, 4, 5, 6, 7, 8, 9, 10, 11, 12, 13], []), ([14, 11, 13, 0, 1, 2, 3, 4, 5, 6, 7, 8, 9, 10, 11, 12, 13], [11, 14])])
def quoinlaw18_Tame.B10 : List Nat := [0, 1, 3, 0, 15, 31, 0, 64, 0, 256, 768, 1984, 255, 4351, 16383, 32767]
theorem quoinlaw18_Tame.tab10 : rtab .any (opsOf Try.f27 10) = quoinlaw18_Tame.T10 := by kernel_rfl
theorem quoinlaw18_Tame.bits10 : waitsOk quoinlaw18_Tame.T10.2 quoinlaw18_Tame.B10 = true := by kernel_rfl
set_option maxHeartbeats 8000000 in
set_option maxRecDepth 100000 in
theorem quoinlaw18_Tame.calls (k : Nat) (A0 : Option Addr) (c0 : Nat) (l0 : List (S39)) (a1 : Bool) (r : List (S39)) (w : World) (hr0 : Kd.C k39 w A0 l0.length l0) (hc0 : l0.length ≤ c0) (h : quoinlaw18_Tame.f k l0 a1 = some r) :
    Calls Try.prog 27 #[.slice A0 l0.length c0, .bool a1] w fun e w' => ∃ v0_ : Value, e = .returned (v0_) ∧ Kd.R k39 39 w' w.heap.size (fun _ => True) v0_ r ∧ Below w.heap.size w w' := by
  have hu39 := Try.underlying39
  have HR0 := Aside0.mk hr0
  have HC0 := Aside0.mk hc0
  clear hr0 hc0
  have HB := Aside0.mk (Below.refl w.heap.size w)
  have H : (quoinlaw18_Tame.l0 k l0 a1 ([] : List (S39)) 0) = some r := h
  clear h
  have H' := Aside0.mk H
  clear H
  go_enter Try.func27, Try.ntmps27
  go_wp2
  go_loopg [5, 6] k (fun kq v5 v6 w' => ∃ (x5_1 : List (S39)) (x6_1 : Int), v6 = .int .i64 x6_1 ∧ Aside0 (quoinlaw18_Tame.l0 kq l0 a1 x5_1 x6_1 = some r) ∧ Aside0 (kq ≤ k) ∧ Aside0 (Kd.R k39 39 w' w.heap.size (fun _ => True) v5 x5_1) ∧ Aside0 (Below w.heap.size w w'))
  case atStart => exact ⟨(([] : List (S39))), (0), (by first | rfl | (simp; done) | (simp [*]; done)), H', ⟨Nat.le_refl _⟩, ⟨by first | exact Kd.R_nil _ _ _ _ _ | exact Kd.N_nil _ _ _ _ _ | exact Kd.V_nil _ _ _ _ _ | exact Kd.Q_nil _ _ _ _ _ | exact Kd.S_nil _ _ _ _ _⟩, ⟨by repeat (first | (with_reducible first | exact HB.out | apply below_alloc | apply pw_below_drewN | apply below_drew1) | exact HB.out)⟩⟩
  case round =>
    clear H'
    try clear c2
    try clear p2
    obtain ⟨x5_1, x6_1, rfl, HA, HK1, HO_5, HB⟩ := hrel
    cases gk with
    | zero => exact absurd HA.out (by simp [quoinlaw18_Tame.l0])
    | succ k1 =>
      have H := HA.out
      clear HA
      simp only [quoinlaw18_Tame.l0] at H
      have HC3 := Aside0.mk H
      clear H
      go_upto_region 3 with (fail)
      go_cut [16] (fun v16 wc => ∃ (kq : Nat) (x16_2 : Bool), v16 = .bool x16_2 ∧ Aside0 (quoinlaw18_Tame.j1 kq l0 a1 x5_1 x6_1 x16_2 = some r) ∧ Aside0 (kq ≤ k1) ∧ Aside0 (Kd.R k39 39 wc w.heap.size (fun _ => True) u5 x5_1) ∧ Aside0 (Below w.heap.size w wc))
      case first =>
        have H := HC3.out
        clear HC3
        by_cases c4 : x6_1 < (l0.length : Int)
        · rw [if_pos c4] at H
          have c4b0 : decide (x6_1 < (l0.length : Int)) = true := decide_eq_true c4
          clear c4
          (first | rw [c4b0] | (simp only [i64_w, i32_w]; rw [c4b0]) | skip)
          have H' := Aside0.mk H
          clear H
          go_wp2
          go_meet
          case rel => exact ⟨_, (decide (x6_1 < 12)), (by first | rfl | (simp; done) | (simp [*]; done)), H', ⟨by have := HK1.out; first | omega | exact Nat.le_refl _⟩, ⟨by (with_reducible repeat (first | apply Kd.R_alloc | apply Kd.R_drewN | apply Kd.R_drew)); exact HO_5.out⟩, ⟨by repeat (first | (with_reducible first | exact HB.out | apply below_alloc | apply pw_below_drewN | apply below_drew1) | exact HB.out)⟩⟩
        · rw [if_neg c4] at H
          have c4b0 : decide (x6_1 < (l0.length : Int)) = false := decide_eq_false c4
          clear c4
          (first | rw [c4b0] | (simp only [i64_w, i32_w]; rw [c4b0]) | skip)
          have H' := Aside0.mk H
          clear H
          go_wp2
          go_meet
          case rel => exact ⟨_, (false), (by first | rfl | (simp; done) | (simp [*]; done)), H', ⟨by have := HK1.out; first | omega | exact Nat.le_refl _⟩, ⟨by (with_reducible repeat (first | apply Kd.R_alloc | apply Kd.R_drewN | apply Kd.R_drew)); exact HO_5.out⟩, ⟨by repeat (first | (with_reducible first | exact HB.out | apply below_alloc | apply pw_below_drewN | apply below_drew1) | exact HB.out)⟩⟩
      case rest =>
        clear HC3
        try clear c2
        try clear p2
        try clear c4
        try clear c4b0
        try clear p2
        obtain ⟨kq, x16_2, rfl, HA, HJ2, HO_5, HB⟩ := hcut
        cases kq with
        | zero => exact absurd HA.out (by simp [quoinlaw18_Tame.j1])
        | succ kj2 =>
          have H := HA.out
          clear HA
          simp only [quoinlaw18_Tame.j1] at H
          by_cases c5 : x16_2 = true
          · subst c5
            have H1 : (if 0 ≤ x6_1 then (if x6_1 < (l0.length : Int) then (if a1 = true then (quoinlaw18_Tame.j2 kj2 l0 a1 x5_1 x6_1 200 ((rd_T39 l0 x6_1).f0) ((rd_T39 l0 x6_1).f1) ((rd_T39 l0 x6_1).f2) ((rd_T39 l0 x6_1).f3) ((rd_T39 l0 x6_1).f4) ((rd_T39 l0 x6_1).f5)) else (quoinlaw18_Tame.j2 kj2 l0 a1 x5_1 x6_1 8796093022208 ((rd_T39 l0 x6_1).f0) ((rd_T39 l0 x6_1).f1) ((rd_T39 l0 x6_1).f2) ((rd_T39 l0 x6_1).f3) ((rd_T39 l0 x6_1).f4) ((rd_T39 l0 x6_1).f5))) else (none)) else (none)) = some r := by rw [if_pos rfl] at H; exact H
            clear H
            have H := H1
            clear H1
            by_cases c6 : 0 ≤ x6_1
            · rw [if_pos c6] at H
              have c6b0 : decide (0 ≤ x6_1) = true := decide_eq_true c6
              clear c6
              by_cases c7 : x6_1 < (l0.length : Int)
              · rw [if_pos c7] at H
                have c7b0 : decide (x6_1 < (l0.length : Int)) = true := decide_eq_true c7
                clear c7
                have HC8 := Aside0.mk H
                clear H
                have p267 : 0 ≤ (x6_1 : Int) := of_decide_eq_true (by first | (with_reducible assumption) | assumption)
                have q267 : x6_1 < (l0.length : Int) := of_decide_eq_true (by first | (with_reducible assumption) | assumption)
                obtain ⟨ad267, e267, hx267_0, hx267_1, hx267_2, hx267_3, hx267_4, hx267_5⟩ := at_T39 HR0.out x6_1 p267 q267
                cases e267
                replace hx267_0 := (HB.out.cell (World.block_lt_of_cell? w _ hx267_0)).trans hx267_0
                replace hx267_1 := (HB.out.cell (World.block_lt_of_cell? w _ hx267_1)).trans hx267_1
                replace hx267_2 := (HB.out.cell (World.block_lt_of_cell? w _ hx267_2)).trans hx267_2
                replace hx267_3 := (HB.out.cell (World.block_lt_of_cell? w _ hx267_3)).trans hx267_3
                replace hx267_4 := (HB.out.cell (World.block_lt_of_cell? w _ hx267_4)).trans hx267_4
                replace hx267_5 := (HB.out.cell (World.block_lt_of_cell? w _ hx267_5)).trans hx267_5
                replace p267 := eq_true p267
                replace q267 := eq_true q267
                go_upto_if 23 with (first | ((with_reducible refine gate_dst (N := 7) rfl ?_); refine box_event ?hg (N := 7) ?hd (cs := #[.int .i64 0, .int .i64 0, .int .i64 0, .int .i64 0, .int .i64 0, .int .i64 0]) (t := 39) ?hr ?_; (case hd => rfl); (case hg => rfl); (case hr => first | (go_simp; done) | (go_simp; rfl)); intro gb268 hg w9 hbox hb; have n0_ := Aside0.mk (Kd.R_below (Kd.R_elderB (by (with_reducible repeat (first | apply Kd.R_alloc | apply Kd.R_drewN | apply Kd.R_drew)); exact HO_5.out) gb268 (Nat.le_of_eq hg.symm)) hb); have n1_ := Aside0.mk (below_step (by repeat (first | (with_reducible first | exact HB.out | apply below_alloc | apply pw_below_drewN | apply below_drew1) | exact HB.out)) hb); have n2_ := Aside0.mk (hbox); have n3_ := Aside0.mk ((by rw [hg]; exact (below_size (by repeat (first | (with_reducible first | exact HB.out | apply below_alloc | apply pw_below_drewN | apply below_drew1) | exact HB.out))) : w.heap.size ≤ gb268)); have n4_ := Aside0.mk ((by rw [hg]; exact (below_size (by repeat (first | (with_reducible first | exact HB.out | apply below_alloc | apply pw_below_drewN | apply below_drew1) | exact HB.out))) : w.heap.size ≤ gb268)); clear HO_5; clear HB; have HO_5 := n0_; have HB := n1_; have BK268 := n2_; have GW268 := n3_; have GE268 := n4_; clear n0_ n1_ n2_ n3_ n4_; clear hb hbox hg; have hcz10_0 : w9.cell? ⟨gb268, 0, none⟩ = some (.int .i64 0) := (blk_cell BK268.out 0).trans rfl; have hcz10_1 : w9.cell? ⟨gb268, 1, none⟩ = some (.int .i64 0) := (blk_cell BK268.out 1).trans rfl; have hcz10_2 : w9.cell? ⟨gb268, 2, none⟩ = some (.int .i64 0) := (blk_cell BK268.out 2).trans rfl; have hcz10_3 : w9.cell? ⟨gb268, 3, none⟩ = some (.int .i64 0) := (blk_cell BK268.out 3).trans rfl; have hcz10_4 : w9.cell? ⟨gb268, 4, none⟩ = some (.int .i64 0) := (blk_cell BK268.out 4).trans rfl; have hcz10_5 : w9.cell? ⟨gb268, 5, none⟩ = some (.int .i64 0) := (blk_cell BK268.out 5).trans rfl; have hfz10_0 := blk_frozen BK268.out 0; have hfz10_1 := blk_frozen BK268.out 1; have hfz10_2 := blk_frozen BK268.out 2; have hfz10_3 := blk_frozen BK268.out 3; have hfz10_4 := blk_frozen BK268.out 4; have hfz10_5 := blk_frozen BK268.out 5))
                (try simp only [Act.put, List.setIfInBounds_toArray, List.set_cons_zero, List.set_cons_succ])
                go_cut [8] (fun v8 wc => ∃ (kq : Nat) (x8_7 : Int), v8 = .int .u64 x8_7 ∧ Aside0 (quoinlaw18_Tame.j2 kq l0 a1 x5_1 x6_1 x8_7 ((rd_T39 l0 x6_1).f0) ((rd_T39 l0 x6_1).f1) ((rd_T39 l0 x6_1).f2) ((rd_T39 l0 x6_1).f3) ((rd_T39 l0 x6_1).f4) ((rd_T39 l0 x6_1).f5) = some r) ∧ Aside0 (kq ≤ kj2) ∧ Aside0 (Kd.R k39 39 wc w.heap.size (fun k_ => k_ ≠ gb268) u5 x5_1) ∧ Aside0 (wc.heap[gb268]? = some (.cells #[.int .i64 ((rd_T39 l0 x6_1).f0), .int .i64 ((rd_T39 l0 x6_1).f1), .int .i64 ((rd_T39 l0 x6_1).f2), .int .i64 ((rd_T39 l0 x6_1).f3), .int .i64 ((rd_T39 l0 x6_1).f4), .int .i64 ((rd_T39 l0 x6_1).f5)] 39 (0, 0))) ∧ Aside0 (Below w.heap.size w wc))
                case first =>
                  have H := HC8.out
                  clear HC8
                  by_cases c11 : a1 = true
                  · subst c11
                    have H1 : (quoinlaw18_Tame.j2 kj2 l0 true x5_1 x6_1 200 ((rd_T39 l0 x6_1).f0) ((rd_T39 l0 x6_1).f1) ((rd_T39 l0 x6_1).f2) ((rd_T39 l0 x6_1).f3) ((rd_T39 l0 x6_1).f4) ((rd_T39 l0 x6_1).f5)) = some r := by rw [if_pos rfl] at H; exact H
                    clear H
                    have H := H1
                    clear H1
                    have H' := Aside0.mk H
                    clear H
                    go_wp2
                    go_meet
                    case rel => exact ⟨_, (200), (by first | rfl | (simp; done) | (simp [*]; done)), H', ⟨by have := HK1.out; have := HJ2.out; first | omega | exact Nat.le_refl _⟩, ⟨by (with_reducible repeat (first | apply Kd.R_alloc | apply Kd.R_drewN | apply Kd.R_drew)); exact Kd.R_mono (Kd.R_far (p := ⟨gb268, 5, none⟩) (Kd.R_far (p := ⟨gb268, 4, none⟩) (Kd.R_far (p := ⟨gb268, 3, none⟩) (Kd.R_far (p := ⟨gb268, 2, none⟩) (Kd.R_far (p := ⟨gb268, 1, none⟩) (Kd.R_far (p := ⟨gb268, 0, none⟩) (Kd.R_mono HO_5.out (fun k_ hk => (⟨hk, hk.2⟩ : _ ∧ k_ ≠ gb268))) (fun _ hk => hk.2) (.int .i64 ((rd_T39 l0 x6_1).f0))) (fun _ hk => hk.2) (.int .i64 ((rd_T39 l0 x6_1).f1))) (fun _ hk => hk.2) (.int .i64 ((rd_T39 l0 x6_1).f2))) (fun _ hk => hk.2) (.int .i64 ((rd_T39 l0 x6_1).f3))) (fun _ hk => hk.2) (.int .i64 ((rd_T39 l0 x6_1).f4))) (fun _ hk => hk.2) (.int .i64 ((rd_T39 l0 x6_1).f5))) (fun _ hk => hk.1.2)⟩, ⟨by (with_reducible repeat (first | refine blk_drewN ?_ _ | refine blk_drew ?_ | refine blk_alloc ?_ _)); refine blk_put (cs := #[.int .i64 ((rd_T39 l0 x6_1).f0), .int .i64 ((rd_T39 l0 x6_1).f1), .int .i64 ((rd_T39 l0 x6_1).f2), .int .i64 ((rd_T39 l0 x6_1).f3), .int .i64 ((rd_T39 l0 x6_1).f4), .int .i64 0]) ?_ 5 _ rfl; (with_reducible repeat (first | refine blk_drewN ?_ _ | refine blk_drew ?_ | refine blk_alloc ?_ _)); refine blk_put (cs := #[.int .i64 ((rd_T39 l0 x6_1).f0), .int .i64 ((rd_T39 l0 x6_1).f1), .int .i64 ((rd_T39 l0 x6_1).f2), .int .i64 ((rd_T39 l0 x6_1).f3), .int .i64 0, .int .i64 0]) ?_ 4 _ rfl; (with_reducible repeat (first | refine blk_drewN ?_ _ | refine blk_drew ?_ | refine blk_alloc ?_ _)); refine blk_put (cs := #[.int .i64 ((rd_T39 l0 x6_1).f0), .int .i64 ((rd_T39 l0 x6_1).f1), .int .i64 ((rd_T39 l0 x6_1).f2), .int .i64 0, .int .i64 0, .int .i64 0]) ?_ 3 _ rfl; (with_reducible repeat (first | refine blk_drewN ?_ _ | refine blk_drew ?_ | refine blk_alloc ?_ _)); refine blk_put (cs := #[.int .i64 ((rd_T39 l0 x6_1).f0), .int .i64 ((rd_T39 l0 x6_1).f1), .int .i64 0, .int .i64 0, .int .i64 0, .int .i64 0]) ?_ 2 _ rfl; (with_reducible repeat (first | refine blk_drewN ?_ _ | refine blk_drew ?_ | refine blk_alloc ?_ _)); refine blk_put (cs := #[.int .i64 ((rd_T39 l0 x6_1).f0), .int .i64 0, .int .i64 0, .int .i64 0, .int .i64 0, .int .i64 0]) ?_ 1 _ rfl; (with_reducible repeat (first | refine blk_drewN ?_ _ | refine blk_drew ?_ | refine blk_alloc ?_ _)); refine blk_put (cs := #[.int .i64 0, .int .i64 0, .int .i64 0, .int .i64 0, .int .i64 0, .int .i64 0]) ?_ 0 _ rfl; (with_reducible repeat (first | refine blk_drewN ?_ _ | refine blk_drew ?_ | refine blk_alloc ?_ _)); exact BK268.out⟩, ⟨by repeat (first | (with_reducible first | exact HB.out | apply below_alloc | apply pw_below_drewN | apply below_drew1 | refine below_set ?_ GE268.out) | exact HB.out)⟩⟩
                  · replace c11 := Bool.eq_false_iff.mpr c11
                    subst c11
                    have H1 : (quoinlaw18_Tame.j2 kj2 l0 false x5_1 x6_1 8796093022208 ((rd_T39 l0 x6_1).f0) ((rd_T39 l0 x6_1).f1) ((rd_T39 l0 x6_1).f2) ((rd_T39 l0 x6_1).f3) ((rd_T39 l0 x6_1).f4) ((rd_T39 l0 x6_1).f5)) = some r := by rw [if_neg (show ¬ (false = true) by decide)] at H; exact H
                    clear H
                    have H := H1
                    clear H1
                    have H' := Aside0.mk H
                    clear H
                    go_wp2
                    go_meet
                    case rel => exact ⟨_, (8796093022208), (by first | rfl | (simp; done) | (simp [*]; done)), H', ⟨by have := HK1.out; have := HJ2.out; first | omega | exact Nat.le_refl _⟩, ⟨by (with_reducible repeat (first | apply Kd.R_alloc | apply Kd.R_drewN | apply Kd.R_drew)); exact Kd.R_mono (Kd.R_far (p := ⟨gb268, 5, none⟩) (Kd.R_far (p := ⟨gb268, 4, none⟩) (Kd.R_far (p := ⟨gb268, 3, none⟩) (Kd.R_far (p := ⟨gb268, 2, none⟩) (Kd.R_far (p := ⟨gb268, 1, none⟩) (Kd.R_far (p := ⟨gb268, 0, none⟩) (Kd.R_mono HO_5.out (fun k_ hk => (⟨hk, hk.2⟩ : _ ∧ k_ ≠ gb268))) (fun _ hk => hk.2) (.int .i64 ((rd_T39 l0 x6_1).f0))) (fun _ hk => hk.2) (.int .i64 ((rd_T39 l0 x6_1).f1))) (fun _ hk => hk.2) (.int .i64 ((rd_T39 l0 x6_1).f2))) (fun _ hk => hk.2) (.int .i64 ((rd_T39 l0 x6_1).f3))) (fun _ hk => hk.2) (.int .i64 ((rd_T39 l0 x6_1).f4))) (fun _ hk => hk.2) (.int .i64 ((rd_T39 l0 x6_1).f5))) (fun _ hk => hk.1.2)⟩, ⟨by (with_reducible repeat (first | refine blk_drewN ?_ _ | refine blk_drew ?_ | refine blk_alloc ?_ _)); refine blk_put (cs := #[.int .i64 ((rd_T39 l0 x6_1).f0), .int .i64 ((rd_T39 l0 x6_1).f1), .int .i64 ((rd_T39 l0 x6_1).f2), .int .i64 ((rd_T39 l0 x6_1).f3), .int .i64 ((rd_T39 l0 x6_1).f4), .int .i64 0]) ?_ 5 _ rfl; (with_reducible repeat (first | refine blk_drewN ?_ _ | refine blk_drew ?_ | refine blk_alloc ?_ _)); refine blk_put (cs := #[.int .i64 ((rd_T39 l0 x6_1).f0), .int .i64 ((rd_T39 l0 x6_1).f1), .int .i64 ((rd_T39 l0 x6_1).f2), .int .i64 ((rd_T39 l0 x6_1).f3), .int .i64 0, .int .i64 0]) ?_ 4 _ rfl; (with_reducible repeat (first | refine blk_drewN ?_ _ | refine blk_drew ?_ | refine blk_alloc ?_ _)); refine blk_put (cs := #[.int .i64 ((rd_T39 l0 x6_1).f0), .int .i64 ((rd_T39 l0 x6_1).f1), .int .i64 ((rd_T39 l0 x6_1).f2), .int .i64 0, .int .i64 0, .int .i64 0]) ?_ 3 _ rfl; (with_reducible repeat (first | refine blk_drewN ?_ _ | refine blk_drew ?_ | refine blk_alloc ?_ _)); refine blk_put (cs := #[.int .i64 ((rd_T39 l0 x6_1).f0), .int .i64 ((rd_T39 l0 x6_1).f1), .int .i64 0, .int .i64 0, .int .i64 0, .int .i64 0]) ?_ 2 _ rfl; (with_reducible repeat (first | refine blk_drewN ?_ _ | refine blk_drew ?_ | refine blk_alloc ?_ _)); refine blk_put (cs := #[.int .i64 ((rd_T39 l0 x6_1).f0), .int .i64 0, .int .i64 0, .int .i64 0, .int .i64 0, .int .i64 0]) ?_ 1 _ rfl; (with_reducible repeat (first | refine blk_drewN ?_ _ | refine blk_drew ?_ | refine blk_alloc ?_ _)); refine blk_put (cs := #[.int .i64 0, .int .i64 0, .int .i64 0, .int .i64 0, .int .i64 0, .int .i64 0]) ?_ 0 _ rfl; (with_reducible repeat (first | refine blk_drewN ?_ _ | refine blk_drew ?_ | refine blk_alloc ?_ _)); exact BK268.out⟩, ⟨by repeat (first | (with_reducible first | exact HB.out | apply below_alloc | apply pw_below_drewN | apply below_drew1 | refine below_set ?_ GE268.out) | exact HB.out)⟩⟩
                case rest =>
                  clear HC8
                  try clear c1
                  try clear c2
                  try clear p2
                  try clear q2
                  try clear hx2
                  try clear c4
                  try clear c4b0
                  try clear c5
                  try clear c6
                  try clear c6b0
                  try clear c7
                  try clear c7b0
                  try clear c11
                  try clear hcz10_0
                  try clear hcz10_1
                  try clear hcz10_2
                  try clear hcz10_3
                  try clear hcz10_4
                  try clear hcz10_5
                  try clear hfz10_0
                  try clear hfz10_1
                  try clear hfz10_2
                  try clear hfz10_3
                  try clear hfz10_4
                  try clear hfz10_5
                  try clear hx267_0
                  try clear hx267_1
                  try clear hx267_2
                  try clear hx267_3
                  try clear hx267_4
                  try clear hx267_5
                  try clear p2
                  try clear p267
                  try clear q267
                  obtain ⟨kq, x8_7, rfl, HA, HJ7, HO_5, BK268, HB⟩ := hcut
                  cases kq with
                  | zero => exact absurd HA.out (by simp [quoinlaw18_Tame.j2])
                  | succ kj7 =>
                    have H := HA.out
                    clear HA
                    simp only [quoinlaw18_Tame.j2] at H
                    by_cases c12 : x8_7 = 0
                    · rw [if_pos c12] at H
                      exact absurd H (by simp)
                    · rw [if_neg c12] at H
                      have c12b0 : (x8_7 == 0) = false := beq_eq_false_iff_ne.mpr c12
                      have c12b1 : (x8_7 != 0) = true := bne_iff_ne.mpr c12
                      by_cases c13 : (wrap64 (IntKind.u64.wrap (Int.tdiv x8_7 4))) = 0
                      · rw [if_pos c13] at H
                        exact absurd H (by simp)
                      · rw [if_neg c13] at H
                        have c13b0 : ((wrap64 (IntKind.u64.wrap (Int.tdiv x8_7 4))) == 0) = false := beq_eq_false_iff_ne.mpr c13
                        have c13b1 : ((wrap64 (IntKind.u64.wrap (Int.tdiv x8_7 4))) != 0) = true := bne_iff_ne.mpr c13
                        by_cases c14 : (Go.bits .and .i64 (wrap64 (Int.tmod (IntKind.u64.wrap (((rd_T39 l0 x6_1).f1))) x8_7)) 1) = 1
                        · rw [if_pos c14] at H
                          have c14b0 : ((Go.bits .and .i64 (wrap64 (Int.tmod (IntKind.u64.wrap (((rd_T39 l0 x6_1).f1))) x8_7)) 1) == 1) = true := beq_iff_eq.mpr c14
                          have c14b1 : ((Go.bits .and .i64 (wrap64 (Int.tmod (IntKind.u64.wrap (((rd_T39 l0 x6_1).f1))) x8_7)) 1) != 1) = false := bne_eq_false_iff_eq.mpr c14
                          clear c14
                          by_cases c15 : (Go.bits .and .i64 (wrap64 (Int.tmod (IntKind.u64.wrap (((rd_T39 l0 x6_1).f2))) x8_7)) 3) > 0
                          · rw [if_pos c15] at H
                            have c15b0 : decide (0 < (Go.bits .and .i64 (wrap64 (Int.tmod (IntKind.u64.wrap (((rd_T39 l0 x6_1).f2))) x8_7)) 3)) = true := decide_eq_true c15
                            clear c15
                            by_cases c16 : x5_1.length < 2932031007402
                            · rw [if_pos c16] at H
                              have LMc16 := Aside0.mk c16
                              clear c16
                              obtain ⟨y269, hy269⟩ : ∃ y_ : List (S39), y_ = (x5_1 ++ [(⟨wrap64 (Int.tmod (IntKind.u64.wrap (((rd_T39 l0 x6_1).f0))) x8_7), 0, (-1), Go.bits .and .i64 ((rd_T39 l0 x6_1).f3) 3, Go.bits .and .i64 ((rd_T39 l0 x6_1).f4) 3, Int.tmod ((rd_T39 l0 x6_1).f5) (wrap64 (IntKind.u64.wrap (Int.tdiv x8_7 4)))⟩ : S39)]) := ⟨_, rfl⟩
                              replace H : (quoinlaw18_Tame.l0 kj7 l0 a1 y269 (wrap64 (x6_1 + 1))) = some r := by first | (rw [hy269]; with_reducible exact H) | (have H2_ := (Option.bind_some _ _).symm.trans H; rw [hy269]; with_reducible exact H2_) | (have H2_ := (Option.bind_some _ _).symm.trans H; with_reducible exact H2_) | with_reducible exact H | (rw [hy269]; exact H) | exact H
                              have Ny269 := Aside0.mk hy269
                              clear hy269
                              have H' := Aside0.mk H
                              clear H
                              try go_wp2
                              have n0_ := Aside0.mk (Kd.R_drew HO_5.out)
                              have n1_ := Aside0.mk (blk_drew BK268.out)
                              have n2_ := Aside0.mk (below_drew1 HB.out)
                              clear HO_5
                              clear BK268
                              clear HB
                              have HO_5 := n0_
                              have BK268 := n1_
                              have HB := n2_
                              clear n0_ n1_ n2_
                              refine start_ (n := 26) (S := fun w' => w'.cell? ⟨gb268, 0, none⟩ = some (.int .i64 ((rd_T39 l0 x6_1).f0)) ∧ w'.cell? ⟨gb268, 1, none⟩ = some (.int .i64 ((rd_T39 l0 x6_1).f1)) ∧ w'.cell? ⟨gb268, 2, none⟩ = some (.int .i64 ((rd_T39 l0 x6_1).f2)) ∧ w'.cell? ⟨gb268, 3, none⟩ = some (.int .i64 ((rd_T39 l0 x6_1).f3)) ∧ w'.cell? ⟨gb268, 4, none⟩ = some (.int .i64 ((rd_T39 l0 x6_1).f4)) ∧ w'.cell? ⟨gb268, 5, none⟩ = some (.int .i64 ((rd_T39 l0 x6_1).f5))) (ds := [19, 21, 23, 25]) #[false, false, false, false, false, false, false, false, false, false, false, false, false, false, false, false, false, false, false, false, false, false, false, false, false, false] (by kernel_rfl) rfl rfl ⟨(blk_cell BK268.out 0).trans rfl, (blk_cell BK268.out 1).trans rfl, (blk_cell BK268.out 2).trans rfl, (blk_cell BK268.out 3).trans rfl, (blk_cell BK268.out 4).trans rfl, (blk_cell BK268.out 5).trans rfl⟩ (fun hHeld => ?_); refine with_tabW quoinlaw18_Tame.tab9 quoinlaw18_Tame.bits9 (fun HT_ HW_ => ?_)
                              generalize wc.drew = w17 at HO_5 BK268 HB hHeld ⊢
                              refine pure_ (i := 0) (N := some 24) (v := ?_) (a' := ?_) #[true, false, false, false, false, false, false, false, false, false, false, false, false, false, false, false, false, false, false, false, false, false, false, false, false, false] rfl rfl (any_of HT_.out (by kernel_rfl)) (fun _ _ _ h => h) (Or.inl ⟨by rfl, ?_⟩) ?_ ?_
                              rotate_left
                              · intro w'
                                go_simp
                                with_reducible rfl
                              rotate_left
                              · simp only [Act.put, List.setIfInBounds_toArray, List.set_cons_zero, List.set_cons_succ, i64_w, i32_w]
                                rfl
                              refine pure_ (i := 3) (N := some 27) (v := ?_) (a' := ?_) #[true, false, false, true, false, false, false, false, false, false, false, false, false, false, false, false, false, false, false, false, false, false, false, false, false, false] rfl rfl (any_of HT_.out (by kernel_rfl)) (fun _ _ _ h => h) (Or.inl ⟨by rfl, ?_⟩) ?_ ?_
                              rotate_left
                              · intro w'
                                go_simp
                                with_reducible rfl
                              rotate_left
                              · simp only [Act.put, List.setIfInBounds_toArray, List.set_cons_zero, List.set_cons_succ, i64_w, i32_w]
                                rfl
                              refine pure_ (i := 6) (N := some 30) (v := ?_) (a' := ?_) #[true, false, false, true, false, false, true, false, false, false, false, false, false, false, false, false, false, false, false, false, false, false, false, false, false, false] rfl rfl (any_of HT_.out (by kernel_rfl)) (fun _ _ _ h => h) (Or.inl ⟨by rfl, ?_⟩) ?_ ?_
                              rotate_left
                              · intro w'
                                go_simp
                                with_reducible rfl
                              rotate_left
                              · simp only [Act.put, List.setIfInBounds_toArray, List.set_cons_zero, List.set_cons_succ, i64_w, i32_w]
                                rfl
                              refine pure_ (i := 9) (N := some 33) (v := ?_) (a' := ?_) #[true, false, false, true, false, false, true, false, false, true, false, false, false, false, false, false, false, false, false, false, false, false, false, false, false, false] rfl rfl (any_of HT_.out (by kernel_rfl)) (fun _ _ _ h => h) (Or.inl ⟨by rfl, ?_⟩) ?_ ?_
                              rotate_left
                              · intro w'
                                go_simp
                                with_reducible rfl
                              rotate_left
                              · simp only [Act.put, List.setIfInBounds_toArray, List.set_cons_zero, List.set_cons_succ, i64_w, i32_w]
                                rfl
                              refine pure_ (i := 12) (N := some 36) (v := ?_) (a' := ?_) #[true, false, false, true, false, false, true, false, false, true, false, false, true, false, false, false, false, false, false, false, false, false, false, false, false, false] rfl rfl (any_of HT_.out (by kernel_rfl)) (fun _ _ _ h => h) (Or.inl ⟨by rfl, ?_⟩) ?_ ?_
                              rotate_left
                              · intro w'
                                go_simp
                                with_reducible rfl
                              rotate_left
                              · simp only [Act.put, List.setIfInBounds_toArray, List.set_cons_zero, List.set_cons_succ, i64_w, i32_w]
                                rfl
                              refine pure_ (i := 15) (N := some 39) (v := ?_) (a' := ?_) #[true, false, false, true, false, false, true, false, false, true, false, false, true, false, false, true, false, false, false, false, false, false, false, false, false, false] rfl rfl (any_of HT_.out (by kernel_rfl)) (fun _ _ _ h => h) (Or.inl ⟨by rfl, ?_⟩) ?_ ?_
                              rotate_left
                              · intro w'
                                go_simp
                                with_reducible rfl
                              rotate_left
                              · simp only [Act.put, List.setIfInBounds_toArray, List.set_cons_zero, List.set_cons_succ, i64_w, i32_w]
                                rfl
                              refine take_ (i := 1) (N := some 25) (v := ?_) (a' := ?_) #[true, true, false, true, false, false, true, false, false, true, false, false, true, false, false, true, false, false, false, false, false, false, false, false, false, false] rfl rfl (take_ofW HT_.out HW_.out (by kernel_rfl)) (fun _ _ _ h => h) (Or.inl ⟨by rfl, ?_⟩) hHeld ?_ ?_
                              rotate_left
                              · rintro w' ⟨s0, s1, s2, s3, s4, s5⟩
                                go_simp
                                with_reducible rfl
                              rotate_left
                              · simp only [Act.put, List.setIfInBounds_toArray, List.set_cons_zero, List.set_cons_succ, i64_w, i32_w]
                                rfl
                              refine pure_ (i := 2) (N := some 26) (v := ?_) (a' := ?_) #[true, true, true, true, false, false, true, false, false, true, false, false, true, false, false, true, false, false, false, false, false, false, false, false, false, false] rfl rfl (any_of HT_.out (by kernel_rfl)) (fun _ _ _ h => h) (Or.inl ⟨by rfl, ?_⟩) ?_ ?_
                              rotate_left
                              · intro w'
                                go_simp
                                with_reducible rfl
                              rotate_left
                              · simp only [Act.put, List.setIfInBounds_toArray, List.set_cons_zero, List.set_cons_succ, i64_w, i32_w]
                                rfl
                              refine pure_ (i := 4) (N := some 28) (v := ?_) (a' := ?_) #[true, true, true, true, true, false, true, false, false, true, false, false, true, false, false, true, false, false, false, false, false, false, false, false, false, false] rfl rfl (any_of HT_.out (by kernel_rfl)) (fun _ _ _ h => h) (Or.inl ⟨by rfl, ?_⟩) ?_ ?_
                              rotate_left
                              · intro w'
                                go_simp
                                with_reducible rfl
                              rotate_left
                              · simp only [Act.put, List.setIfInBounds_toArray, List.set_cons_zero, List.set_cons_succ, i64_w, i32_w]
                                rfl
                              refine pure_ (i := 5) (N := some 29) (v := ?_) (a' := ?_) #[true, true, true, true, true, true, true, false, false, true, false, false, true, false, false, true, false, false, false, false, false, false, false, false, false, false] rfl rfl (any_of HT_.out (by kernel_rfl)) (fun _ _ _ h => h) (Or.inl ⟨by rfl, ?_⟩) ?_ ?_
                              rotate_left
                              · intro w'
                                go_simp
                                with_reducible rfl
                              rotate_left
                              · simp only [Act.put, List.setIfInBounds_toArray, List.set_cons_zero, List.set_cons_succ, i64_w, i32_w]
                                rfl
                              refine take_ (i := 7) (N := some 31) (v := ?_) (a' := ?_) #[true, true, true, true, true, true, true, true, false, true, false, false, true, false, false, true, false, false, false, false, false, false, false, false, false, false] rfl rfl (take_ofW HT_.out HW_.out (by kernel_rfl)) (fun _ _ _ h => h) (Or.inl ⟨by rfl, ?_⟩) hHeld ?_ ?_
                              rotate_left
                              · rintro w' ⟨s0, s1, s2, s3, s4, s5⟩
                                go_simp
                                with_reducible rfl
                              rotate_left
                              · simp only [Act.put, List.setIfInBounds_toArray, List.set_cons_zero, List.set_cons_succ, i64_w, i32_w]
                                rfl
                              refine pure_ (i := 8) (N := some 32) (v := ?_) (a' := ?_) #[true, true, true, true, true, true, true, true, true, true, false, false, true, false, false, true, false, false, false, false, false, false, false, false, false, false] rfl rfl (any_of HT_.out (by kernel_rfl)) (fun _ _ _ h => h) (Or.inl ⟨by rfl, ?_⟩) ?_ ?_
                              rotate_left
                              · intro w'
                                go_simp
                                with_reducible rfl
                              rotate_left
                              · simp only [Act.put, List.setIfInBounds_toArray, List.set_cons_zero, List.set_cons_succ, i64_w, i32_w]
                                rfl
                              refine pure_ (i := 10) (N := some 34) (v := ?_) (a' := ?_) #[true, true, true, true, true, true, true, true, true, true, true, false, true, false, false, true, false, false, false, false, false, false, false, false, false, false] rfl rfl (any_of HT_.out (by kernel_rfl)) (fun _ _ _ h => h) (Or.inl ⟨by rfl, ?_⟩) ?_ ?_
                              rotate_left
                              · intro w'
                                go_simp
                                with_reducible rfl
                              rotate_left
                              · simp only [Act.put, List.setIfInBounds_toArray, List.set_cons_zero, List.set_cons_succ, i64_w, i32_w]
                                rfl
                              refine pure_ (i := 11) (N := some 35) (v := ?_) (a' := ?_) #[true, true, true, true, true, true, true, true, true, true, true, true, true, false, false, true, false, false, false, false, false, false, false, false, false, false] rfl rfl (any_of HT_.out (by kernel_rfl)) (fun _ _ _ h => h) (Or.inl ⟨by rfl, ?_⟩) ?_ ?_
                              rotate_left
                              · intro w'
                                go_simp
                                with_reducible rfl
                              rotate_left
                              · simp only [Act.put, List.setIfInBounds_toArray, List.set_cons_zero, List.set_cons_succ, i64_w, i32_w]
                                rfl
                              refine take_ (i := 13) (N := some 37) (v := ?_) (a' := ?_) #[true, true, true, true, true, true, true, true, true, true, true, true, true, true, false, true, false, false, false, false, false, false, false, false, false, false] rfl rfl (take_ofW HT_.out HW_.out (by kernel_rfl)) (fun _ _ _ h => h) (Or.inl ⟨by rfl, ?_⟩) hHeld ?_ ?_
                              rotate_left
                              · rintro w' ⟨s0, s1, s2, s3, s4, s5⟩
                                go_simp
                                with_reducible rfl
                              rotate_left
                              · simp only [Act.put, List.setIfInBounds_toArray, List.set_cons_zero, List.set_cons_succ, i64_w, i32_w]
                                rfl
                              refine pure_ (i := 14) (N := some 38) (v := ?_) (a' := ?_) #[true, true, true, true, true, true, true, true, true, true, true, true, true, true, true, true, false, false, false, false, false, false, false, false, false, false] rfl rfl (any_of HT_.out (by kernel_rfl)) (fun _ _ _ h => h) (Or.inl ⟨by rfl, ?_⟩) ?_ ?_
                              rotate_left
                              · intro w'
                                go_simp
                                with_reducible rfl
                              rotate_left
                              · simp only [Act.put, List.setIfInBounds_toArray, List.set_cons_zero, List.set_cons_succ, i64_w, i32_w]
                                rfl
                              refine take_ (i := 16) (N := some 40) (v := ?_) (a' := ?_) #[true, true, true, true, true, true, true, true, true, true, true, true, true, true, true, true, true, false, false, false, false, false, false, false, false, false] rfl rfl (take_ofW HT_.out HW_.out (by kernel_rfl)) (fun _ _ _ h => h) (Or.inl ⟨by rfl, ?_⟩) hHeld ?_ ?_
                              rotate_left
                              · rintro w' ⟨s0, s1, s2, s3, s4, s5⟩
                                go_simp
                                with_reducible rfl
                              rotate_left
                              · simp only [Act.put, List.setIfInBounds_toArray, List.set_cons_zero, List.set_cons_succ, i64_w, i32_w]
                                rfl
                              refine pure_ (i := 17) (N := some 41) (v := ?_) (a' := ?_) #[true, true, true, true, true, true, true, true, true, true, true, true, true, true, true, true, true, true, false, false, false, false, false, false, false, false] rfl rfl (any_of HT_.out (by kernel_rfl)) (fun _ _ _ h => h) (Or.inl ⟨by rfl, ?_⟩) ?_ ?_
                              rotate_left
                              · intro w'
                                go_simp
                                with_reducible rfl
                              rotate_left
                              · simp only [Act.put, List.setIfInBounds_toArray, List.set_cons_zero, List.set_cons_succ, i64_w, i32_w]
                                rfl
                              refine pure_ (i := 18) (N := some 42) (v := ?_) (a' := ?_) #[true, true, true, true, true, true, true, true, true, true, true, true, true, true, true, true, true, true, true, false, false, false, false, false, false, false] rfl rfl (any_of HT_.out (by kernel_rfl)) (fun _ _ _ h => h) (Or.inl ⟨by rfl, ?_⟩) ?_ ?_
                              rotate_left
                              · intro w'
                                go_simp
                                with_reducible rfl
                              rotate_left
                              · simp only [Act.put, List.setIfInBounds_toArray, List.set_cons_zero, List.set_cons_succ, i64_w, i32_w]
                                rfl
                              refine last_ (i := 19) (N := none) #[true, true, true, true, true, true, true, true, true, true, true, true, true, true, true, true, true, true, true, true, false, false, false, false, false, false] rfl rfl (one_of HT_.out (by kernel_rfl)) (by decide) (fun K hK => ?_)
                              have hs18 : w17.cell? ⟨gb268, 0, none⟩ = some (.int .i64 ((rd_T39 l0 x6_1).f0)) := (blk_cell BK268.out 0).trans rfl
                              have hfs18 := blk_frozen BK268.out 0
                              refine skip_ (w1 := ?_) (by rfl) rfl ?_ ?_
                              rotate_left
                              · go_simp
                                rfl
                              refine hK.out _ _ ?_
                              clear hK K
                              refine pure_ (i := 20) (N := some 43) (v := ?_) (a' := ?_) #[true, true, true, true, true, true, true, true, true, true, true, true, true, true, true, true, true, true, true, true, true, false, false, false, false, false] rfl rfl (any_of HT_.out (by kernel_rfl)) (fun _ _ _ h => h) (Or.inl ⟨by rfl, ?_⟩) ?_ ?_
                              rotate_left
                              · intro w'
                                go_simp
                                with_reducible rfl
                              rotate_left
                              · simp only [Act.put, List.setIfInBounds_toArray, List.set_cons_zero, List.set_cons_succ, i64_w, i32_w]
                                rfl
                              refine last_ (i := 21) (N := none) #[true, true, true, true, true, true, true, true, true, true, true, true, true, true, true, true, true, true, true, true, true, true, false, false, false, false] rfl rfl (one_of HT_.out (by kernel_rfl)) (by decide) (fun K hK => ?_)
                              have hs19 : w17.cell? ⟨gb268, 1, none⟩ = some (.int .i64 ((rd_T39 l0 x6_1).f1)) := (blk_cell BK268.out 1).trans rfl
                              have hfs19 := blk_frozen BK268.out 1
                              refine skip_ (w1 := ?_) (by rfl) rfl ?_ ?_
                              rotate_left
                              · go_simp
                                rfl
                              refine hK.out _ _ ?_
                              clear hK K
                              refine pure_ (i := 22) (N := some 44) (v := ?_) (a' := ?_) #[true, true, true, true, true, true, true, true, true, true, true, true, true, true, true, true, true, true, true, true, true, true, true, false, false, false] rfl rfl (any_of HT_.out (by kernel_rfl)) (fun _ _ _ h => h) (Or.inl ⟨by rfl, ?_⟩) ?_ ?_
                              rotate_left
                              · intro w'
                                go_simp
                                with_reducible rfl
                              rotate_left
                              · simp only [Act.put, List.setIfInBounds_toArray, List.set_cons_zero, List.set_cons_succ, i64_w, i32_w]
                                rfl
                              refine last_ (i := 23) (N := none) #[true, true, true, true, true, true, true, true, true, true, true, true, true, true, true, true, true, true, true, true, true, true, true, true, false, false] rfl rfl (one_of HT_.out (by kernel_rfl)) (by decide) (fun K hK => ?_)
                              have hs20 : w17.cell? ⟨gb268, 3, none⟩ = some (.int .i64 ((rd_T39 l0 x6_1).f3)) := (blk_cell BK268.out 3).trans rfl
                              have hfs20 := blk_frozen BK268.out 3
                              refine skip_ (w1 := ?_) (by rfl) rfl ?_ ?_
                              rotate_left
                              · go_simp
                                rfl
                              refine hK.out _ _ ?_
                              clear hK K
                              refine pure_ (i := 24) (N := some 45) (v := ?_) (a' := ?_) #[true, true, true, true, true, true, true, true, true, true, true, true, true, true, true, true, true, true, true, true, true, true, true, true, true, false] rfl rfl (any_of HT_.out (by kernel_rfl)) (fun _ _ _ h => h) (Or.inl ⟨by rfl, ?_⟩) ?_ ?_
                              rotate_left
                              · intro w'
                                go_simp
                                with_reducible rfl
                              rotate_left
                              · simp only [Act.put, List.setIfInBounds_toArray, List.set_cons_zero, List.set_cons_succ, i64_w, i32_w]
                                rfl
                              refine last_ (i := 25) (N := none) #[true, true, true, true, true, true, true, true, true, true, true, true, true, true, true, true, true, true, true, true, true, true, true, true, true, true] rfl rfl (one_of HT_.out (by kernel_rfl)) (by decide) (fun K hK => ?_)
                              have hs21 : w17.cell? ⟨gb268, 4, none⟩ = some (.int .i64 ((rd_T39 l0 x6_1).f4)) := (blk_cell BK268.out 4).trans rfl
                              have hfs21 := blk_frozen BK268.out 4
                              refine skip_ (w1 := ?_) (by rfl) rfl ?_ ?_
                              rotate_left
                              · go_simp
                                rfl
                              refine hK.out _ _ ?_
                              clear hK K
                              refine done_ (done_of HT_.out (by kernel_rfl)) ?_
                              try go_wp2
                              have n0_ : Aside0 (Kd.R k39 39 ((((w17.setCell ⟨gb268, 0, none⟩ (.int .i64 (wrap64 (Int.tmod (IntKind.u64.wrap (((rd_T39 l0 x6_1).f0))) x8_7)))).setCell ⟨gb268, 1, none⟩ (.int .i64 (wrap64 (Int.tmod (IntKind.u64.wrap (((rd_T39 l0 x6_1).f1))) x8_7)))).setCell ⟨gb268, 3, none⟩ (.int .i64 (Go.bits .and .i64 ((rd_T39 l0 x6_1).f3) 3))).setCell ⟨gb268, 4, none⟩ (.int .i64 (Go.bits .and .i64 ((rd_T39 l0 x6_1).f4) 3))) w.heap.size (fun k_ => k_ ≠ gb268) u5 x5_1) := ⟨by (with_reducible repeat (first | apply Kd.R_alloc | apply Kd.R_drewN | apply Kd.R_drew)); exact Kd.R_mono (Kd.R_far (p := ⟨gb268, 4, none⟩) (Kd.R_far (p := ⟨gb268, 3, none⟩) (Kd.R_far (p := ⟨gb268, 1, none⟩) (Kd.R_far (p := ⟨gb268, 0, none⟩) (Kd.R_mono HO_5.out (fun k_ hk => (⟨hk, hk⟩ : _ ∧ k_ ≠ gb268))) (fun _ hk => hk.2) (.int .i64 (wrap64 (Int.tmod (IntKind.u64.wrap (((rd_T39 l0 x6_1).f0))) x8_7)))) (fun _ hk => hk.2) (.int .i64 (wrap64 (Int.tmod (IntKind.u64.wrap (((rd_T39 l0 x6_1).f1))) x8_7)))) (fun _ hk => hk.2) (.int .i64 (Go.bits .and .i64 ((rd_T39 l0 x6_1).f3) 3))) (fun _ hk => hk.2) (.int .i64 (Go.bits .and .i64 ((rd_T39 l0 x6_1).f4) 3))) (fun _ hk => hk.1)⟩
                              have n1_ : Aside0 (((((w17.setCell ⟨gb268, 0, none⟩ (.int .i64 (wrap64 (Int.tmod (IntKind.u64.wrap (((rd_T39 l0 x6_1).f0))) x8_7)))).setCell ⟨gb268, 1, none⟩ (.int .i64 (wrap64 (Int.tmod (IntKind.u64.wrap (((rd_T39 l0 x6_1).f1))) x8_7)))).setCell ⟨gb268, 3, none⟩ (.int .i64 (Go.bits .and .i64 ((rd_T39 l0 x6_1).f3) 3))).setCell ⟨gb268, 4, none⟩ (.int .i64 (Go.bits .and .i64 ((rd_T39 l0 x6_1).f4) 3))).heap[gb268]? = some (.cells #[.int .i64 (wrap64 (Int.tmod (IntKind.u64.wrap (((rd_T39 l0 x6_1).f0))) x8_7)), .int .i64 (wrap64 (Int.tmod (IntKind.u64.wrap (((rd_T39 l0 x6_1).f1))) x8_7)), .int .i64 ((rd_T39 l0 x6_1).f2), .int .i64 (Go.bits .and .i64 ((rd_T39 l0 x6_1).f3) 3), .int .i64 (Go.bits .and .i64 ((rd_T39 l0 x6_1).f4) 3), .int .i64 ((rd_T39 l0 x6_1).f5)] 39 (0, 0))) := ⟨by (with_reducible repeat (first | refine blk_drewN ?_ _ | refine blk_drew ?_ | refine blk_alloc ?_ _)); refine blk_put (cs := #[.int .i64 (wrap64 (Int.tmod (IntKind.u64.wrap (((rd_T39 l0 x6_1).f0))) x8_7)), .int .i64 (wrap64 (Int.tmod (IntKind.u64.wrap (((rd_T39 l0 x6_1).f1))) x8_7)), .int .i64 ((rd_T39 l0 x6_1).f2), .int .i64 (Go.bits .and .i64 ((rd_T39 l0 x6_1).f3) 3), .int .i64 ((rd_T39 l0 x6_1).f4), .int .i64 ((rd_T39 l0 x6_1).f5)]) ?_ 4 _ rfl; (with_reducible repeat (first | refine blk_drewN ?_ _ | refine blk_drew ?_ | refine blk_alloc ?_ _)); refine blk_put (cs := #[.int .i64 (wrap64 (Int.tmod (IntKind.u64.wrap (((rd_T39 l0 x6_1).f0))) x8_7)), .int .i64 (wrap64 (Int.tmod (IntKind.u64.wrap (((rd_T39 l0 x6_1).f1))) x8_7)), .int .i64 ((rd_T39 l0 x6_1).f2), .int .i64 ((rd_T39 l0 x6_1).f3), .int .i64 ((rd_T39 l0 x6_1).f4), .int .i64 ((rd_T39 l0 x6_1).f5)]) ?_ 3 _ rfl; (with_reducible repeat (first | refine blk_drewN ?_ _ | refine blk_drew ?_ | refine blk_alloc ?_ _)); refine blk_put (cs := #[.int .i64 (wrap64 (Int.tmod (IntKind.u64.wrap (((rd_T39 l0 x6_1).f0))) x8_7)), .int .i64 ((rd_T39 l0 x6_1).f1), .int .i64 ((rd_T39 l0 x6_1).f2), .int .i64 ((rd_T39 l0 x6_1).f3), .int .i64 ((rd_T39 l0 x6_1).f4), .int .i64 ((rd_T39 l0 x6_1).f5)]) ?_ 1 _ rfl; (with_reducible repeat (first | refine blk_drewN ?_ _ | refine blk_drew ?_ | refine blk_alloc ?_ _)); refine blk_put (cs := #[.int .i64 ((rd_T39 l0 x6_1).f0), .int .i64 ((rd_T39 l0 x6_1).f1), .int .i64 ((rd_T39 l0 x6_1).f2), .int .i64 ((rd_T39 l0 x6_1).f3), .int .i64 ((rd_T39 l0 x6_1).f4), .int .i64 ((rd_T39 l0 x6_1).f5)]) ?_ 0 _ rfl; (with_reducible repeat (first | refine blk_drewN ?_ _ | refine blk_drew ?_ | refine blk_alloc ?_ _)); exact BK268.out⟩
                              have n2_ : Aside0 (Below w.heap.size w ((((w17.setCell ⟨gb268, 0, none⟩ (.int .i64 (wrap64 (Int.tmod (IntKind.u64.wrap (((rd_T39 l0 x6_1).f0))) x8_7)))).setCell ⟨gb268, 1, none⟩ (.int .i64 (wrap64 (Int.tmod (IntKind.u64.wrap (((rd_T39 l0 x6_1).f1))) x8_7)))).setCell ⟨gb268, 3, none⟩ (.int .i64 (Go.bits .and .i64 ((rd_T39 l0 x6_1).f3) 3))).setCell ⟨gb268, 4, none⟩ (.int .i64 (Go.bits .and .i64 ((rd_T39 l0 x6_1).f4) 3)))) := ⟨by repeat (first | (with_reducible first | exact HB.out | apply below_alloc | apply pw_below_drewN | apply below_drew1 | refine below_set ?_ GE268.out) | exact HB.out)⟩
                              (try clear HO_5)
                              (try clear BK268)
                              (try clear HB)
                              generalize ((((w17.setCell ⟨gb268, 0, none⟩ (.int .i64 (wrap64 (Int.tmod (IntKind.u64.wrap (((rd_T39 l0 x6_1).f0))) x8_7)))).setCell ⟨gb268, 1, none⟩ (.int .i64 (wrap64 (Int.tmod (IntKind.u64.wrap (((rd_T39 l0 x6_1).f1))) x8_7)))).setCell ⟨gb268, 3, none⟩ (.int .i64 (Go.bits .and .i64 ((rd_T39 l0 x6_1).f3) 3))).setCell ⟨gb268, 4, none⟩ (.int .i64 (Go.bits .and .i64 ((rd_T39 l0 x6_1).f4) 3))) = w22 at n0_ n1_ n2_ ⊢
                              have HO_5 := n0_
                              have BK268 := n1_
                              have HB := n2_
                              clear n0_ n1_ n2_
                              have n0_ := Aside0.mk (Kd.R_drew HO_5.out)
                              have n1_ := Aside0.mk (blk_drew BK268.out)
                              have n2_ := Aside0.mk (below_drew1 HB.out)
                              clear HO_5
                              clear BK268
                              clear HB
                              have HO_5 := n0_
                              have BK268 := n1_
                              have HB := n2_
                              clear n0_ n1_ n2_
                              refine start_ (n := 16) (S := fun w' => w'.cell? ⟨gb268, 0, none⟩ = some (.int .i64 (wrap64 (Int.tmod (IntKind.u64.wrap (((rd_T39 l0 x6_1).f0))) x8_7))) ∧ w'.cell? ⟨gb268, 1, none⟩ = some (.int .i64 (wrap64 (Int.tmod (IntKind.u64.wrap (((rd_T39 l0 x6_1).f1))) x8_7))) ∧ w'.cell? ⟨gb268, 2, none⟩ = some (.int .i64 ((rd_T39 l0 x6_1).f2)) ∧ w'.cell? ⟨gb268, 3, none⟩ = some (.int .i64 (Go.bits .and .i64 ((rd_T39 l0 x6_1).f3) 3)) ∧ w'.cell? ⟨gb268, 4, none⟩ = some (.int .i64 (Go.bits .and .i64 ((rd_T39 l0 x6_1).f4) 3)) ∧ w'.cell? ⟨gb268, 5, none⟩ = some (.int .i64 ((rd_T39 l0 x6_1).f5))) (ds := [13, 15]) #[false, false, false, false, false, false, false, false, false, false, false, false, false, false, false, false] (by kernel_rfl) rfl rfl ⟨(blk_cell BK268.out 0).trans rfl, (blk_cell BK268.out 1).trans rfl, (blk_cell BK268.out 2).trans rfl, (blk_cell BK268.out 3).trans rfl, (blk_cell BK268.out 4).trans rfl, (blk_cell BK268.out 5).trans rfl⟩ (fun hHeld => ?_); refine with_tabW quoinlaw18_Tame.tab10 quoinlaw18_Tame.bits10 (fun HT_ HW_ => ?_)
                              generalize w22.drew = w23 at HO_5 BK268 HB hHeld ⊢
                              refine pure_ (i := 0) (N := some 46) (v := ?_) (a' := ?_) #[true, false, false, false, false, false, false, false, false, false, false, false, false, false, false, false] rfl rfl (any_of HT_.out (by kernel_rfl)) (fun _ _ _ h => h) (Or.inl ⟨by rfl, ?_⟩) ?_ ?_
                              rotate_left
                              · intro w'
                                go_simp
                                with_reducible rfl
                              rotate_left
                              · simp only [Act.put, List.setIfInBounds_toArray, List.set_cons_zero, List.set_cons_succ, i64_w, i32_w]
                                rfl
                              refine pure_ (i := 3) (N := some 49) (v := ?_) (a' := ?_) #[true, false, false, true, false, false, false, false, false, false, false, false, false, false, false, false] rfl rfl (any_of HT_.out (by kernel_rfl)) (fun _ _ _ h => h) (Or.inl ⟨by rfl, ?_⟩) ?_ ?_
                              rotate_left
                              · intro w'
                                go_simp
                                with_reducible rfl
                              rotate_left
                              · simp only [Act.put, List.setIfInBounds_toArray, List.set_cons_zero, List.set_cons_succ, i64_w, i32_w]
                                rfl
                              refine pure_ (i := 6) (N := some 52) (v := ?_) (a' := ?_) #[true, false, false, true, false, false, true, false, false, false, false, false, false, false, false, false] rfl rfl (any_of HT_.out (by kernel_rfl)) (fun _ _ _ h => h) (Or.inl ⟨by rfl, ?_⟩) ?_ ?_
                              rotate_left
                              · intro w'
                                go_simp
                                with_reducible rfl
                              rotate_left
                              · simp only [Act.put, List.setIfInBounds_toArray, List.set_cons_zero, List.set_cons_succ, i64_w, i32_w]
                                rfl
                              refine pure_ (i := 8) (N := some 54) (v := ?_) (a' := ?_) #[true, false, false, true, false, false, true, false, true, false, false, false, false, false, false, false] rfl rfl (any_of HT_.out (by kernel_rfl)) (fun _ _ _ h => h) (Or.inl ⟨by rfl, ?_⟩) ?_ ?_
                              rotate_left
                              · intro w'
                                go_simp
                                with_reducible rfl
                              rotate_left
                              · simp only [Act.put, List.setIfInBounds_toArray, List.set_cons_zero, List.set_cons_succ, i64_w, i32_w]
                                rfl
                              refine pure_ (i := 9) (N := some 55) (v := ?_) (a' := ?_) #[true, false, false, true, false, false, true, false, true, true, false, false, false, false, false, false] rfl rfl (any_of HT_.out (by kernel_rfl)) (fun _ _ _ h => h) (Or.inl ⟨by rfl, ?_⟩) ?_ ?_
                              rotate_left
                              · intro w'
                                go_simp
                                with_reducible rfl
                              rotate_left
                              · simp only [Act.put, List.setIfInBounds_toArray, List.set_cons_zero, List.set_cons_succ, i64_w, i32_w]
                                rfl
                              refine pure_ (i := 10) (N := some 56) (v := ?_) (a' := ?_) #[true, false, false, true, false, false, true, false, true, true, true, false, false, false, false, false] rfl rfl (any_of HT_.out (by kernel_rfl)) (fun _ _ _ h => h) (Or.inl ⟨by rfl, ?_⟩) ?_ ?_
                              rotate_left
                              · intro w'
                                go_simp
                                with_reducible rfl
                              rotate_left
                              · simp only [Act.put, List.setIfInBounds_toArray, List.set_cons_zero, List.set_cons_succ, i64_w, i32_w]
                                rfl
                              refine take_ (i := 1) (N := some 47) (v := ?_) (a' := ?_) #[true, true, false, true, false, false, true, false, true, true, true, false, false, false, false, false] rfl rfl (take_ofW HT_.out HW_.out (by kernel_rfl)) (fun _ _ _ h => h) (Or.inl ⟨by rfl, ?_⟩) hHeld ?_ ?_
                              rotate_left
                              · rintro w' ⟨s0, s1, s2, s3, s4, s5⟩
                                go_simp
                                with_reducible rfl
                              rotate_left
                              · simp only [Act.put, List.setIfInBounds_toArray, List.set_cons_zero, List.set_cons_succ, i64_w, i32_w]
                                rfl
                              refine pure_ (i := 2) (N := some 48) (v := ?_) (a' := ?_) #[true, true, true, true, false, false, true, false, true, true, true, false, false, false, false, false] rfl rfl (any_of HT_.out (by kernel_rfl)) (fun _ _ _ h => h) (Or.inl ⟨by rfl, ?_⟩) ?_ ?_
                              rotate_left
                              · intro w'
                                go_simp
                                with_reducible rfl
                              rotate_left
                              · simp only [Act.put, List.setIfInBounds_toArray, List.set_cons_zero, List.set_cons_succ, i64_w, i32_w]
                                rfl
                              refine pure_ (i := 4) (N := some 50) (v := ?_) (a' := ?_) #[true, true, true, true, true, false, true, false, true, true, true, false, false, false, false, false] rfl rfl (any_of HT_.out (by kernel_rfl)) (fun _ _ _ h => h) (Or.inl ⟨by rfl, ?_⟩) ?_ ?_
                              rotate_left
                              · intro w'
                                go_simp
                                with_reducible rfl
                              rotate_left
                              · simp only [Act.put, List.setIfInBounds_toArray, List.set_cons_zero, List.set_cons_succ, i64_w, i32_w]
                                rfl
                              refine pure_ (i := 5) (N := some 51) (v := ?_) (a' := ?_) #[true, true, true, true, true, true, true, false, true, true, true, false, false, false, false, false] rfl rfl (any_of HT_.out (by kernel_rfl)) (fun _ _ _ h => h) (Or.inl ⟨by rfl, ?_⟩) ?_ ?_
                              rotate_left
                              · intro w'
                                go_simp
                                with_reducible rfl
                              rotate_left
                              · simp only [Act.put, List.setIfInBounds_toArray, List.set_cons_zero, List.set_cons_succ, i64_w, i32_w]
                                rfl
                              refine take_ (i := 7) (N := some 53) (v := ?_) (a' := ?_) #[true, true, true, true, true, true, true, true, true, true, true, false, false, false, false, false] rfl rfl (take_ofW HT_.out HW_.out (by kernel_rfl)) (fun _ _ _ h => h) (Or.inl ⟨by rfl, ?_⟩) hHeld ?_ ?_
                              rotate_left
                              · rintro w' ⟨s0, s1, s2, s3, s4, s5⟩
                                go_simp
                                with_reducible rfl
                              rotate_left
                              · simp only [Act.put, List.setIfInBounds_toArray, List.set_cons_zero, List.set_cons_succ, i64_w, i32_w]
                                rfl
                              refine pure_ (i := 11) (N := some 57) (v := ?_) (a' := ?_) #[true, true, true, true, true, true, true, true, true, true, true, true, false, false, false, false] rfl rfl (any_of HT_.out (by kernel_rfl)) (fun _ _ _ h => h) (Or.inl ⟨by rfl, ?_⟩) ?_ ?_
                              rotate_left
                              · intro w'
                                go_simp
                                with_reducible rfl
                              rotate_left
                              · simp only [Act.put, List.setIfInBounds_toArray, List.set_cons_zero, List.set_cons_succ, i64_w, i32_w]
                                rfl
                              refine pure_ (i := 12) (N := some 58) (v := ?_) (a' := ?_) #[true, true, true, true, true, true, true, true, true, true, true, true, true, false, false, false] rfl rfl (any_of HT_.out (by kernel_rfl)) (fun _ _ _ h => h) (Or.inl ⟨by rfl, ?_⟩) ?_ ?_
                              rotate_left
                              · intro w'
                                go_simp
                                with_reducible rfl
                              rotate_left
                              · simp only [Act.put, List.setIfInBounds_toArray, List.set_cons_zero, List.set_cons_succ, i64_w, i32_w]
                                rfl
                              refine last_ (i := 13) (N := none) #[true, true, true, true, true, true, true, true, true, true, true, true, true, true, false, false] rfl rfl (one_of HT_.out (by kernel_rfl)) (by decide) (fun K hK => ?_)
                              have hs24 : w23.cell? ⟨gb268, 2, none⟩ = some (.int .i64 ((rd_T39 l0 x6_1).f2)) := (blk_cell BK268.out 2).trans rfl
                              have hfs24 := blk_frozen BK268.out 2
                              refine skip_ (w1 := ?_) (by rfl) rfl ?_ ?_
                              rotate_left
                              · go_simp
                                rfl
                              refine hK.out _ _ ?_
                              clear hK K
                              refine pure_ (i := 14) (N := some 59) (v := ?_) (a' := ?_) #[true, true, true, true, true, true, true, true, true, true, true, true, true, true, true, false] rfl rfl (any_of HT_.out (by kernel_rfl)) (fun _ _ _ h => h) (Or.inl ⟨by rfl, ?_⟩) ?_ ?_
                              rotate_left
                              · intro w'
                                go_simp
                                with_reducible rfl
                              rotate_left
                              · simp only [Act.put, List.setIfInBounds_toArray, List.set_cons_zero, List.set_cons_succ, i64_w, i32_w]
                                rfl
                              refine last_ (i := 15) (N := none) #[true, true, true, true, true, true, true, true, true, true, true, true, true, true, true, true] rfl rfl (one_of HT_.out (by kernel_rfl)) (by decide) (fun K hK => ?_)
                              have hs25 : w23.cell? ⟨gb268, 5, none⟩ = some (.int .i64 ((rd_T39 l0 x6_1).f5)) := (blk_cell BK268.out 5).trans rfl
                              have hfs25 := blk_frozen BK268.out 5
                              refine skip_ (w1 := ?_) (by rfl) rfl ?_ ?_
                              rotate_left
                              · go_simp
                                rfl
                              refine hK.out _ _ ?_
                              clear hK K
                              refine done_ (done_of HT_.out (by kernel_rfl)) ?_
                              have hcz26_0 : w23.cell? ⟨gb268, 0, none⟩ = some (.int .i64 (wrap64 (Int.tmod (IntKind.u64.wrap (((rd_T39 l0 x6_1).f0))) x8_7))) := (blk_cell BK268.out 0).trans rfl
                              have hcz26_1 : w23.cell? ⟨gb268, 1, none⟩ = some (.int .i64 (wrap64 (Int.tmod (IntKind.u64.wrap (((rd_T39 l0 x6_1).f1))) x8_7))) := (blk_cell BK268.out 1).trans rfl
                              have hcz26_2 : w23.cell? ⟨gb268, 2, none⟩ = some (.int .i64 ((rd_T39 l0 x6_1).f2)) := (blk_cell BK268.out 2).trans rfl
                              have hcz26_3 : w23.cell? ⟨gb268, 3, none⟩ = some (.int .i64 (Go.bits .and .i64 ((rd_T39 l0 x6_1).f3) 3)) := (blk_cell BK268.out 3).trans rfl
                              have hcz26_4 : w23.cell? ⟨gb268, 4, none⟩ = some (.int .i64 (Go.bits .and .i64 ((rd_T39 l0 x6_1).f4) 3)) := (blk_cell BK268.out 4).trans rfl
                              have hcz26_5 : w23.cell? ⟨gb268, 5, none⟩ = some (.int .i64 ((rd_T39 l0 x6_1).f5)) := (blk_cell BK268.out 5).trans rfl
                              have hfz26_0 := blk_frozen BK268.out 0
                              have hfz26_1 := blk_frozen BK268.out 1
                              have hfz26_2 := blk_frozen BK268.out 2
                              have hfz26_3 := blk_frozen BK268.out 3
                              have hfz26_4 := blk_frozen BK268.out 4
                              have hfz26_5 := blk_frozen BK268.out 5
                              try go_wp2_with (first | ((with_reducible refine gate_builtin (b := .append) (xs := #[.tmp 70, .tmp 72]) rfl ?_); at_builtin; refine Kd.R_append k39 (w0 := w) w.heap.size rfl (.tmp 70) (.tmp 72) 36 39 (.agg #[(.int .i64 0), (.int .i64 0), (.int .i64 0), (.int .i64 0), (.int .i64 0), (.int .i64 0)]) 48 rfl Try.underlying36 info39 rfl (by decide) (by omega) u5 x5_1 (⟨wrap64 (Int.tmod (IntKind.u64.wrap (((rd_T39 l0 x6_1).f0))) x8_7), 0, (-1), Go.bits .and .i64 ((rd_T39 l0 x6_1).f3) 3, Go.bits .and .i64 ((rd_T39 l0 x6_1).f4) 3, Int.tmod ((rd_T39 l0 x6_1).f5) (wrap64 (IntKind.u64.wrap (Int.tdiv x8_7 4)))⟩ : S39) [.int .i64 (wrap64 (Int.tmod (IntKind.u64.wrap (((rd_T39 l0 x6_1).f0))) x8_7)), .int .i64 0, .int .i64 (-1), .int .i64 (Go.bits .and .i64 ((rd_T39 l0 x6_1).f3) 3), .int .i64 (Go.bits .and .i64 ((rd_T39 l0 x6_1).f4) 3), .int .i64 (Int.tmod ((rd_T39 l0 x6_1).f5) (wrap64 (IntKind.u64.wrap (Int.tdiv x8_7 4))))] (fun k_ => k_ ≠ gb268) (fun _ => False) rfl (by first | (go_simp; done) | (go_simp; rfl)) ?aP (fun _ hk => hk.elim) ?aF ?aO ?aB ?aS ?aL ?_; (case aP => exact k39_mkM _ _ _ (⟨wrap64 (Int.tmod (IntKind.u64.wrap (((rd_T39 l0 x6_1).f0))) x8_7), 0, (-1), Go.bits .and .i64 ((rd_T39 l0 x6_1).f3) 3, Go.bits .and .i64 ((rd_T39 l0 x6_1).f4) 3, Int.tmod ((rd_T39 l0 x6_1).f5) (wrap64 (IntKind.u64.wrap (Int.tdiv x8_7 4)))⟩ : S39)); (case aB => exact (by repeat (first | (with_reducible first | exact HB.out | apply below_alloc | apply pw_below_drewN | apply below_drew1 | refine below_set ?_ GE268.out) | exact HB.out))); (case aF => exact (fun k_ hk => Kd.freshB (g := gb268) (o := .cells #[.int .i64 (wrap64 (Int.tmod (IntKind.u64.wrap (((rd_T39 l0 x6_1).f0))) x8_7)), .int .i64 0, .int .i64 (-1), .int .i64 (Go.bits .and .i64 ((rd_T39 l0 x6_1).f3) 3), .int .i64 (Go.bits .and .i64 ((rd_T39 l0 x6_1).f4) 3), .int .i64 (Int.tmod ((rd_T39 l0 x6_1).f5) (wrap64 (IntKind.u64.wrap (Int.tdiv x8_7 4))))] 39 (0, 0)) (by (with_reducible repeat (first | refine blk_drewN ?_ _ | refine blk_drew ?_ | refine blk_alloc ?_ _)); refine blk_put (cs := #[.int .i64 (wrap64 (Int.tmod (IntKind.u64.wrap (((rd_T39 l0 x6_1).f0))) x8_7)), .int .i64 0, .int .i64 (wrap64 (Int.tmod (IntKind.u64.wrap (((rd_T39 l0 x6_1).f2))) x8_7)), .int .i64 (Go.bits .and .i64 ((rd_T39 l0 x6_1).f3) 3), .int .i64 (Go.bits .and .i64 ((rd_T39 l0 x6_1).f4) 3), .int .i64 (Int.tmod ((rd_T39 l0 x6_1).f5) (wrap64 (IntKind.u64.wrap (Int.tdiv x8_7 4))))]) ?_ 2 _ rfl; (with_reducible repeat (first | refine blk_drewN ?_ _ | refine blk_drew ?_ | refine blk_alloc ?_ _)); refine blk_put (cs := #[.int .i64 (wrap64 (Int.tmod (IntKind.u64.wrap (((rd_T39 l0 x6_1).f0))) x8_7)), .int .i64 (wrap64 (Int.tmod (IntKind.u64.wrap (((rd_T39 l0 x6_1).f1))) x8_7)), .int .i64 (wrap64 (Int.tmod (IntKind.u64.wrap (((rd_T39 l0 x6_1).f2))) x8_7)), .int .i64 (Go.bits .and .i64 ((rd_T39 l0 x6_1).f3) 3), .int .i64 (Go.bits .and .i64 ((rd_T39 l0 x6_1).f4) 3), .int .i64 (Int.tmod ((rd_T39 l0 x6_1).f5) (wrap64 (IntKind.u64.wrap (Int.tdiv x8_7 4))))]) ?_ 1 _ rfl; (with_reducible repeat (first | refine blk_drewN ?_ _ | refine blk_drew ?_ | refine blk_alloc ?_ _)); refine blk_put (cs := #[.int .i64 (wrap64 (Int.tmod (IntKind.u64.wrap (((rd_T39 l0 x6_1).f0))) x8_7)), .int .i64 (wrap64 (Int.tmod (IntKind.u64.wrap (((rd_T39 l0 x6_1).f1))) x8_7)), .int .i64 (wrap64 (Int.tmod (IntKind.u64.wrap (((rd_T39 l0 x6_1).f2))) x8_7)), .int .i64 (Go.bits .and .i64 ((rd_T39 l0 x6_1).f3) 3), .int .i64 (Go.bits .and .i64 ((rd_T39 l0 x6_1).f4) 3), .int .i64 ((rd_T39 l0 x6_1).f5)]) ?_ 5 _ rfl; (with_reducible repeat (first | refine blk_drewN ?_ _ | refine blk_drew ?_ | refine blk_alloc ?_ _)); refine blk_put (cs := #[.int .i64 (wrap64 (Int.tmod (IntKind.u64.wrap (((rd_T39 l0 x6_1).f0))) x8_7)), .int .i64 (wrap64 (Int.tmod (IntKind.u64.wrap (((rd_T39 l0 x6_1).f1))) x8_7)), .int .i64 ((rd_T39 l0 x6_1).f2), .int .i64 (Go.bits .and .i64 ((rd_T39 l0 x6_1).f3) 3), .int .i64 (Go.bits .and .i64 ((rd_T39 l0 x6_1).f4) 3), .int .i64 ((rd_T39 l0 x6_1).f5)]) ?_ 2 _ rfl; (with_reducible repeat (first | refine blk_drewN ?_ _ | refine blk_drew ?_ | refine blk_alloc ?_ _)); exact BK268.out) k_ hk)); (case aO => exact (by (with_reducible repeat (first | apply Kd.R_alloc | apply Kd.R_drewN | apply Kd.R_drew)); exact Kd.R_mono (Kd.R_far (p := ⟨gb268, 2, none⟩) (Kd.R_far (p := ⟨gb268, 1, none⟩) (Kd.R_far (p := ⟨gb268, 5, none⟩) (Kd.R_far (p := ⟨gb268, 2, none⟩) (Kd.R_mono HO_5.out (fun k_ hk => (⟨hk, hk⟩ : _ ∧ k_ ≠ gb268))) (fun _ hk => hk.2) (.int .i64 (wrap64 (Int.tmod (IntKind.u64.wrap (((rd_T39 l0 x6_1).f2))) x8_7)))) (fun _ hk => hk.2) (.int .i64 (Int.tmod ((rd_T39 l0 x6_1).f5) (wrap64 (IntKind.u64.wrap (Int.tdiv x8_7 4)))))) (fun _ hk => hk.2) (.int .i64 0)) (fun _ hk => hk.2) (.int .i64 (-1))) (fun _ hk => hk.1))); (case aS => exact (below_size (by repeat (first | (with_reducible first | exact HB.out | apply below_alloc | apply pw_below_drewN | apply below_drew1 | refine below_set ?_ GE268.out) | exact HB.out)))); (case aL => have := LMc16.out; omega); intro v270 w27 ho hb hg hat; rw [← Ny269.out] at ho; have n0_ := Aside0.mk (blk_grown (g := gb268) (o := .cells #[.int .i64 (wrap64 (Int.tmod (IntKind.u64.wrap (((rd_T39 l0 x6_1).f0))) x8_7)), .int .i64 0, .int .i64 (-1), .int .i64 (Go.bits .and .i64 ((rd_T39 l0 x6_1).f3) 3), .int .i64 (Go.bits .and .i64 ((rd_T39 l0 x6_1).f4) 3), .int .i64 (Int.tmod ((rd_T39 l0 x6_1).f5) (wrap64 (IntKind.u64.wrap (Int.tdiv x8_7 4))))] 39 (0, 0)) (by (with_reducible repeat (first | refine blk_drewN ?_ _ | refine blk_drew ?_ | refine blk_alloc ?_ _)); refine blk_put (cs := #[.int .i64 (wrap64 (Int.tmod (IntKind.u64.wrap (((rd_T39 l0 x6_1).f0))) x8_7)), .int .i64 0, .int .i64 (wrap64 (Int.tmod (IntKind.u64.wrap (((rd_T39 l0 x6_1).f2))) x8_7)), .int .i64 (Go.bits .and .i64 ((rd_T39 l0 x6_1).f3) 3), .int .i64 (Go.bits .and .i64 ((rd_T39 l0 x6_1).f4) 3), .int .i64 (Int.tmod ((rd_T39 l0 x6_1).f5) (wrap64 (IntKind.u64.wrap (Int.tdiv x8_7 4))))]) ?_ 2 _ rfl; (with_reducible repeat (first | refine blk_drewN ?_ _ | refine blk_drew ?_ | refine blk_alloc ?_ _)); refine blk_put (cs := #[.int .i64 (wrap64 (Int.tmod (IntKind.u64.wrap (((rd_T39 l0 x6_1).f0))) x8_7)), .int .i64 (wrap64 (Int.tmod (IntKind.u64.wrap (((rd_T39 l0 x6_1).f1))) x8_7)), .int .i64 (wrap64 (Int.tmod (IntKind.u64.wrap (((rd_T39 l0 x6_1).f2))) x8_7)), .int .i64 (Go.bits .and .i64 ((rd_T39 l0 x6_1).f3) 3), .int .i64 (Go.bits .and .i64 ((rd_T39 l0 x6_1).f4) 3), .int .i64 (Int.tmod ((rd_T39 l0 x6_1).f5) (wrap64 (IntKind.u64.wrap (Int.tdiv x8_7 4))))]) ?_ 1 _ rfl; (with_reducible repeat (first | refine blk_drewN ?_ _ | refine blk_drew ?_ | refine blk_alloc ?_ _)); refine blk_put (cs := #[.int .i64 (wrap64 (Int.tmod (IntKind.u64.wrap (((rd_T39 l0 x6_1).f0))) x8_7)), .int .i64 (wrap64 (Int.tmod (IntKind.u64.wrap (((rd_T39 l0 x6_1).f1))) x8_7)), .int .i64 (wrap64 (Int.tmod (IntKind.u64.wrap (((rd_T39 l0 x6_1).f2))) x8_7)), .int .i64 (Go.bits .and .i64 ((rd_T39 l0 x6_1).f3) 3), .int .i64 (Go.bits .and .i64 ((rd_T39 l0 x6_1).f4) 3), .int .i64 ((rd_T39 l0 x6_1).f5)]) ?_ 5 _ rfl; (with_reducible repeat (first | refine blk_drewN ?_ _ | refine blk_drew ?_ | refine blk_alloc ?_ _)); refine blk_put (cs := #[.int .i64 (wrap64 (Int.tmod (IntKind.u64.wrap (((rd_T39 l0 x6_1).f0))) x8_7)), .int .i64 (wrap64 (Int.tmod (IntKind.u64.wrap (((rd_T39 l0 x6_1).f1))) x8_7)), .int .i64 ((rd_T39 l0 x6_1).f2), .int .i64 (Go.bits .and .i64 ((rd_T39 l0 x6_1).f3) 3), .int .i64 (Go.bits .and .i64 ((rd_T39 l0 x6_1).f4) 3), .int .i64 ((rd_T39 l0 x6_1).f5)]) ?_ 2 _ rfl; (with_reducible repeat (first | refine blk_drewN ?_ _ | refine blk_drew ?_ | refine blk_alloc ?_ _)); exact BK268.out) hg (Kd.R_away HO_5.out (fun _ hk => hk))); have n1_ := Aside0.mk (hb); have n2_ := Aside0.mk (ho); clear BK268; clear HB; clear HO_5; have BK268 := n0_; have HB := n1_; have HO271 := n2_; clear n0_ n1_ n2_; clear ho hb hg hat))
                              go_roundg kj7
                              case measure => have := HK1.out; have := HJ2.out; have := HJ7.out; omega
                              case rel => exact ⟨(y269), (wrap64 (x6_1 + 1)), (by first | rfl | (simp; done) | (simp [*]; done)), H', ⟨by have := HK1.out; have := HJ2.out; have := HJ7.out; omega⟩, ⟨by (with_reducible repeat (first | apply Kd.R_alloc | apply Kd.R_drewN | apply Kd.R_drew)); exact Kd.R_mono HO271.out (fun _ hk => trivial)⟩, ⟨by repeat (first | (with_reducible first | exact HB.out | apply below_alloc | apply pw_below_drewN | apply below_drew1 | refine below_set ?_ GE268.out) | exact HB.out)⟩⟩
                            · rw [if_neg c16] at H
                              exact absurd H (by simp)
                          · rw [if_neg c15] at H
                            have c15b0 : decide (0 < (Go.bits .and .i64 (wrap64 (Int.tmod (IntKind.u64.wrap (((rd_T39 l0 x6_1).f2))) x8_7)) 3)) = false := decide_eq_false c15
                            clear c15
                            by_cases c28 : x5_1.length < 2932031007402
                            · rw [if_pos c28] at H
                              have LMc28 := Aside0.mk c28
                              clear c28
                              obtain ⟨y272, hy272⟩ : ∃ y_ : List (S39), y_ = (x5_1 ++ [(⟨wrap64 (Int.tmod (IntKind.u64.wrap (((rd_T39 l0 x6_1).f0))) x8_7), 0, wrap64 (Int.tmod (IntKind.u64.wrap (((rd_T39 l0 x6_1).f2))) x8_7), Go.bits .and .i64 ((rd_T39 l0 x6_1).f3) 3, Go.bits .and .i64 ((rd_T39 l0 x6_1).f4) 3, Int.tmod ((rd_T39 l0 x6_1).f5) (wrap64 (IntKind.u64.wrap (Int.tdiv x8_7 4)))⟩ : S39)]) := ⟨_, rfl⟩
                              replace H : (quoinlaw18_Tame.l0 kj7 l0 a1 y272 (wrap64 (x6_1 + 1))) = some r := by first | (rw [hy272]; with_reducible exact H) | (have H2_ := (Option.bind_some _ _).symm.trans H; rw [hy272]; with_reducible exact H2_) | (have H2_ := (Option.bind_some _ _).symm.trans H; with_reducible exact H2_) | with_reducible exact H | (rw [hy272]; exact H) | exact H
                              have Ny272 := Aside0.mk hy272
                              clear hy272
                              have H' := Aside0.mk H
                              clear H
                              try go_wp2
                              have n0_ := Aside0.mk (Kd.R_drew HO_5.out)
                              have n1_ := Aside0.mk (blk_drew BK268.out)
                              have n2_ := Aside0.mk (below_drew1 HB.out)
                              clear HO_5
                              clear BK268
                              clear HB
                              have HO_5 := n0_
                              have BK268 := n1_
                              have HB := n2_
                              clear n0_ n1_ n2_
                              refine start_ (n := 26) (S := fun w' => w'.cell? ⟨gb268, 0, none⟩ = some (.int .i64 ((rd_T39 l0 x6_1).f0)) ∧ w'.cell? ⟨gb268, 1, none⟩ = some (.int .i64 ((rd_T39 l0 x6_1).f1)) ∧ w'.cell? ⟨gb268, 2, none⟩ = some (.int .i64 ((rd_T39 l0 x6_1).f2)) ∧ w'.cell? ⟨gb268, 3, none⟩ = some (.int .i64 ((rd_T39 l0 x6_1).f3)) ∧ w'.cell? ⟨gb268, 4, none⟩ = some (.int .i64 ((rd_T39 l0 x6_1).f4)) ∧ w'.cell? ⟨gb268, 5, none⟩ = some (.int .i64 ((rd_T39 l0 x6_1).f5))) (ds := [19, 21, 23, 25]) #[false, false, false, false, false, false, false, false, false, false, false, false, false, false, false, false, false, false, false, false, false, false, false, false, false, false] (by kernel_rfl) rfl rfl ⟨(blk_cell BK268.out 0).trans rfl, (blk_cell BK268.out 1).trans rfl, (blk_cell BK268.out 2).trans rfl, (blk_cell BK268.out 3).trans rfl, (blk_cell BK268.out 4).trans rfl, (blk_cell BK268.out 5).trans rfl⟩ (fun hHeld => ?_); refine with_tabW quoinlaw18_Tame.tab9 quoinlaw18_Tame.bits9 (fun HT_ HW_ => ?_)
                              generalize wc.drew = w29 at HO_5 BK268 HB hHeld ⊢
                              refine pure_ (i := 0) (N := some 24) (v := ?_) (a' := ?_) #[true, false, false, false, false, false, false, false, false, false, false, false, false, false, false, false, false, false, false, false, false, false, false, false, false, false] rfl rfl (any_of HT_.out (by kernel_rfl)) (fun _ _ _ h => h) (Or.inl ⟨by rfl, ?_⟩) ?_ ?_
                              rotate_left
                              · intro w'
                                go_simp
                                with_reducible rfl
                              rotate_left
                              · simp only [Act.put, List.setIfInBounds_toArray, List.set_cons_zero, List.set_cons_succ, i64_w, i32_w]
                                rfl
                              refine pure_ (i := 3) (N := some 27) (v := ?_) (a' := ?_) #[true, false, false, true, false, false, false, false, false, false, false, false, false, false, false, false, false, false, false, false, false, false, false, false, false, false] rfl rfl (any_of HT_.out (by kernel_rfl)) (fun _ _ _ h => h) (Or.inl ⟨by rfl, ?_⟩) ?_ ?_
                              rotate_left
                              · intro w'
                                go_simp
                                with_reducible rfl
                              rotate_left
                              · simp only [Act.put, List.setIfInBounds_toArray, List.set_cons_zero, List.set_cons_succ, i64_w, i32_w]
                                rfl
                              refine pure_ (i := 6) (N := some 30) (v := ?_) (a' := ?_) #[true, false, false, true, false, false, true, false, false, false, false, false, false, false, false, false, false, false, false, false, false, false, false, false, false, false] rfl rfl (any_of HT_.out (by kernel_rfl)) (fun _ _ _ h => h) (Or.inl ⟨by rfl, ?_⟩) ?_ ?_
                              rotate_left
                              · intro w'
                                go_simp
                                with_reducible rfl
                              rotate_left
                              · simp only [Act.put, List.setIfInBounds_toArray, List.set_cons_zero, List.set_cons_succ, i64_w, i32_w]
                                rfl
                              refine pure_ (i := 9) (N := some 33) (v := ?_) (a' := ?_) #[true, false, false, true, false, false, true, false, false, true, false, false, false, false, false, false, false, false, false, false, false, false, false, false, false, false] rfl rfl (any_of HT_.out (by kernel_rfl)) (fun _ _ _ h => h) (Or.inl ⟨by rfl, ?_⟩) ?_ ?_
                              rotate_left
                              · intro w'
                                go_simp
                                with_reducible rfl
                              rotate_left
                              · simp only [Act.put, List.setIfInBounds_toArray, List.set_cons_zero, List.set_cons_succ, i64_w, i32_w]
                                rfl
                              refine pure_ (i := 12) (N := some 36) (v := ?_) (a' := ?_) #[true, false, false, true, false, false, true, false, false, true, false, false, true, false, false, false, false, false, false, false, false, false, false, false, false, false] rfl rfl (any_of HT_.out (by kernel_rfl)) (fun _ _ _ h => h) (Or.inl ⟨by rfl, ?_⟩) ?_ ?_
                              rotate_left
                              · intro w'
                                go_simp
                                with_reducible rfl
                              rotate_left
                              · simp only [Act.put, List.setIfInBounds_toArray, List.set_cons_zero, List.set_cons_succ, i64_w, i32_w]
                                rfl
                              refine pure_ (i := 15) (N := some 39) (v := ?_) (a' := ?_) #[true, false, false, true, false, false, true, false, false, true, false, false, true, false, false, true, false, false, false, false, false, false, false, false, false, false] rfl rfl (any_of HT_.out (by kernel_rfl)) (fun _ _ _ h => h) (Or.inl ⟨by rfl, ?_⟩) ?_ ?_
                              rotate_left
                              · intro w'
                                go_simp
                                with_reducible rfl
                              rotate_left
                              · simp only [Act.put, List.setIfInBounds_toArray, List.set_cons_zero, List.set_cons_succ, i64_w, i32_w]
                                rfl
                              refine take_ (i := 1) (N := some 25) (v := ?_) (a' := ?_) #[true, true, false, true, false, false, true, false, false, true, false, false, true, false, false, true, false, false, false, false, false, false, false, false, false, false] rfl rfl (take_ofW HT_.out HW_.out (by kernel_rfl)) (fun _ _ _ h => h) (Or.inl ⟨by rfl, ?_⟩) hHeld ?_ ?_
                              rotate_left
                              · rintro w' ⟨s0, s1, s2, s3, s4, s5⟩
                                go_simp
                                with_reducible rfl
                              rotate_left
                              · simp only [Act.put, List.setIfInBounds_toArray, List.set_cons_zero, List.set_cons_succ, i64_w, i32_w]
                                rfl
                              refine pure_ (i := 2) (N := some 26) (v := ?_) (a' := ?_) #[true, true, true, true, false, false, true, false, false, true, false, false, true, false, false, true, false, false, false, false, false, false, false, false, false, false] rfl rfl (any_of HT_.out (by kernel_rfl)) (fun _ _ _ h => h) (Or.inl ⟨by rfl, ?_⟩) ?_ ?_
                              rotate_left
                              · intro w'
                                go_simp
                                with_reducible rfl
                              rotate_left
                              · simp only [Act.put, List.setIfInBounds_toArray, List.set_cons_zero, List.set_cons_succ, i64_w, i32_w]
                                rfl
                              refine pure_ (i := 4) (N := some 28) (v := ?_) (a' := ?_) #[true, true, true, true, true, false, true, false, false, true, false, false, true, false, false, true, false, false, false, false, false, false, false, false, false, false] rfl rfl (any_of HT_.out (by kernel_rfl)) (fun _ _ _ h => h) (Or.inl ⟨by rfl, ?_⟩) ?_ ?_
                              rotate_left
                              · intro w'
                                go_simp
                                with_reducible rfl
                              rotate_left
                              · simp only [Act.put, List.setIfInBounds_toArray, List.set_cons_zero, List.set_cons_succ, i64_w, i32_w]
                                rfl
                              refine pure_ (i := 5) (N := some 29) (v := ?_) (a' := ?_) #[true, true, true, true, true, true, true, false, false, true, false, false, true, false, false, true, false, false, false, false, false, false, false, false, false, false] rfl rfl (any_of HT_.out (by kernel_rfl)) (fun _ _ _ h => h) (Or.inl ⟨by rfl, ?_⟩) ?_ ?_
                              rotate_left
                              · intro w'
                                go_simp
                                with_reducible rfl
                              rotate_left
                              · simp only [Act.put, List.setIfInBounds_toArray, List.set_cons_zero, List.set_cons_succ, i64_w, i32_w]
                                rfl
                              refine take_ (i := 7) (N := some 31) (v := ?_) (a' := ?_) #[true, true, true, true, true, true, true, true, false, true, false, false, true, false, false, true, false, false, false, false, false, false, false, false, false, false] rfl rfl (take_ofW HT_.out HW_.out (by kernel_rfl)) (fun _ _ _ h => h) (Or.inl ⟨by rfl, ?_⟩) hHeld ?_ ?_
                              rotate_left
                              · rintro w' ⟨s0, s1, s2, s3, s4, s5⟩
                                go_simp
                                with_reducible rfl
                              rotate_left
                              · simp only [Act.put, List.setIfInBounds_toArray, List.set_cons_zero, List.set_cons_succ, i64_w, i32_w]
                                rfl
                              refine pure_ (i := 8) (N := some 32) (v := ?_) (a' := ?_) #[true, true, true, true, true, true, true, true, true, true, false, false, true, false, false, true, false, false, false, false, false, false, false, false, false, false] rfl rfl (any_of HT_.out (by kernel_rfl)) (fun _ _ _ h => h) (Or.inl ⟨by rfl, ?_⟩) ?_ ?_
                              rotate_left
                              · intro w'
                                go_simp
                                with_reducible rfl
                              rotate_left
                              · simp only [Act.put, List.setIfInBounds_toArray, List.set_cons_zero, List.set_cons_succ, i64_w, i32_w]
                                rfl
                              refine pure_ (i := 10) (N := some 34) (v := ?_) (a' := ?_) #[true, true, true, true, true, true, true, true, true, true, true, false, true, false, false, true, false, false, false, false, false, false, false, false, false, false] rfl rfl (any_of HT_.out (by kernel_rfl)) (fun _ _ _ h => h) (Or.inl ⟨by rfl, ?_⟩) ?_ ?_
                              rotate_left
                              · intro w'
                                go_simp
                                with_reducible rfl
                              rotate_left
                              · simp only [Act.put, List.setIfInBounds_toArray, List.set_cons_zero, List.set_cons_succ, i64_w, i32_w]
                                rfl
                              refine pure_ (i := 11) (N := some 35) (v := ?_) (a' := ?_) #[true, true, true, true, true, true, true, true, true, true, true, true, true, false, false, true, false, false, false, false, false, false, false, false, false, false] rfl rfl (any_of HT_.out (by kernel_rfl)) (fun _ _ _ h => h) (Or.inl ⟨by rfl, ?_⟩) ?_ ?_
                              rotate_left
                              · intro w'
                                go_simp
                                with_reducible rfl
                              rotate_left
                              · simp only [Act.put, List.setIfInBounds_toArray, List.set_cons_zero, List.set_cons_succ, i64_w, i32_w]
                                rfl
                              refine take_ (i := 13) (N := some 37) (v := ?_) (a' := ?_) #[true, true, true, true, true, true, true, true, true, true, true, true, true, true, false, true, false, false, false, false, false, false, false, false, false, false] rfl rfl (take_ofW HT_.out HW_.out (by kernel_rfl)) (fun _ _ _ h => h) (Or.inl ⟨by rfl, ?_⟩) hHeld ?_ ?_
                              rotate_left
                              · rintro w' ⟨s0, s1, s2, s3, s4, s5⟩
                                go_simp
                                with_reducible rfl
                              rotate_left
                              · simp only [Act.put, List.setIfInBounds_toArray, List.set_cons_zero, List.set_cons_succ, i64_w, i32_w]
                                rfl
                              refine pure_ (i := 14) (N := some 38) (v := ?_) (a' := ?_) #[true, true, true, true, true, true, true, true, true, true, true, true, true, true, true, true, false, false, false, false, false, false, false, false, false, false] rfl rfl (any_of HT_.out (by kernel_rfl)) (fun _ _ _ h => h) (Or.inl ⟨by rfl, ?_⟩) ?_ ?_
                              rotate_left
                              · intro w'
                                go_simp
                                with_reducible rfl
                              rotate_left
                              · simp only [Act.put, List.setIfInBounds_toArray, List.set_cons_zero, List.set_cons_succ, i64_w, i32_w]
                                rfl
                              refine take_ (i := 16) (N := some 40) (v := ?_) (a' := ?_) #[true, true, true, true, true, true, true, true, true, true, true, true, true, true, true, true, true, false, false, false, false, false, false, false, false, false] rfl rfl (take_ofW HT_.out HW_.out (by kernel_rfl)) (fun _ _ _ h => h) (Or.inl ⟨by rfl, ?_⟩) hHeld ?_ ?_
                              rotate_left
                              · rintro w' ⟨s0, s1, s2, s3, s4, s5⟩
                                go_simp
                                with_reducible rfl
                              rotate_left
                              · simp only [Act.put, List.setIfInBounds_toArray, List.set_cons_zero, List.set_cons_succ, i64_w, i32_w]
                                rfl
                              refine pure_ (i := 17) (N := some 41) (v := ?_) (a' := ?_) #[true, true, true, true, true, true, true, true, true, true, true, true, true, true, true, true, true, true, false, false, false, false, false, false, false, false] rfl rfl (any_of HT_.out (by kernel_rfl)) (fun _ _ _ h => h) (Or.inl ⟨by rfl, ?_⟩) ?_ ?_
                              rotate_left
                              · intro w'
                                go_simp
                                with_reducible rfl
                              rotate_left
                              · simp only [Act.put, List.setIfInBounds_toArray, List.set_cons_zero, List.set_cons_succ, i64_w, i32_w]
                                rfl
                              refine pure_ (i := 18) (N := some 42) (v := ?_) (a' := ?_) #[true, true, true, true, true, true, true, true, true, true, true, true, true, true, true, true, true, true, true, false, false, false, false, false, false, false] rfl rfl (any_of HT_.out (by kernel_rfl)) (fun _ _ _ h => h) (Or.inl ⟨by rfl, ?_⟩) ?_ ?_
                              rotate_left
                              · intro w'
                                go_simp
                                with_reducible rfl
                              rotate_left
                              · simp only [Act.put, List.setIfInBounds_toArray, List.set_cons_zero, List.set_cons_succ, i64_w, i32_w]
                                rfl
                              refine last_ (i := 19) (N := none) #[true, true, true, true, true, true, true, true, true, true, true, true, true, true, true, true, true, true, true, true, false, false, false, false, false, false] rfl rfl (one_of HT_.out (by kernel_rfl)) (by decide) (fun K hK => ?_)
                              have hs30 : w29.cell? ⟨gb268, 0, none⟩ = some (.int .i64 ((rd_T39 l0 x6_1).f0)) := (blk_cell BK268.out 0).trans rfl
                              have hfs30 := blk_frozen BK268.out 0
                              refine skip_ (w1 := ?_) (by rfl) rfl ?_ ?_
                              rotate_left
                              · go_simp
                                rfl
                              refine hK.out _ _ ?_
                              clear hK K
                              refine pure_ (i := 20) (N := some 43) (v := ?_) (a' := ?_) #[true, true, true, true, true, true, true, true, true, true, true, true, true, true, true, true, true, true, true, true, true, false, false, false, false, false] rfl rfl (any_of HT_.out (by kernel_rfl)) (fun _ _ _ h => h) (Or.inl ⟨by rfl, ?_⟩) ?_ ?_
                              rotate_left
                              · intro w'
                                go_simp
                                with_reducible rfl
                              rotate_left
                              · simp only [Act.put, List.setIfInBounds_toArray, List.set_cons_zero, List.set_cons_succ, i64_w, i32_w]
                                rfl
                              refine last_ (i := 21) (N := none) #[true, true, true, true, true, true, true, true, true, true, true, true, true, true, true, true, true, true, true, true, true, true, false, false, false, false] rfl rfl (one_of HT_.out (by kernel_rfl)) (by decide) (fun K hK => ?_)
                              have hs31 : w29.cell? ⟨gb268, 1, none⟩ = some (.int .i64 ((rd_T39 l0 x6_1).f1)) := (blk_cell BK268.out 1).trans rfl
                              have hfs31 := blk_frozen BK268.out 1
                              refine skip_ (w1 := ?_) (by rfl) rfl ?_ ?_
                              rotate_left
                              · go_simp
                                rfl
                              refine hK.out _ _ ?_
                              clear hK K
                              refine pure_ (i := 22) (N := some 44) (v := ?_) (a' := ?_) #[true, true, true, true, true, true, true, true, true, true, true, true, true, true, true, true, true, true, true, true, true, true, true, false, false, false] rfl rfl (any_of HT_.out (by kernel_rfl)) (fun _ _ _ h => h) (Or.inl ⟨by rfl, ?_⟩) ?_ ?_
                              rotate_left
                              · intro w'
                                go_simp
                                with_reducible rfl
                              rotate_left
                              · simp only [Act.put, List.setIfInBounds_toArray, List.set_cons_zero, List.set_cons_succ, i64_w, i32_w]
                                rfl
                              refine last_ (i := 23) (N := none) #[true, true, true, true, true, true, true, true, true, true, true, true, true, true, true, true, true, true, true, true, true, true, true, true, false, false] rfl rfl (one_of HT_.out (by kernel_rfl)) (by decide) (fun K hK => ?_)
                              have hs32 : w29.cell? ⟨gb268, 3, none⟩ = some (.int .i64 ((rd_T39 l0 x6_1).f3)) := (blk_cell BK268.out 3).trans rfl
                              have hfs32 := blk_frozen BK268.out 3
                              refine skip_ (w1 := ?_) (by rfl) rfl ?_ ?_
                              rotate_left
                              · go_simp
                                rfl
                              refine hK.out _ _ ?_
                              clear hK K
                              refine pure_ (i := 24) (N := some 45) (v := ?_) (a' := ?_) #[true, true, true, true, true, true, true, true, true, true, true, true, true, true, true, true, true, true, true, true, true, true, true, true, true, false] rfl rfl (any_of HT_.out (by kernel_rfl)) (fun _ _ _ h => h) (Or.inl ⟨by rfl, ?_⟩) ?_ ?_
                              rotate_left
                              · intro w'
                                go_simp
                                with_reducible rfl
                              rotate_left
                              · simp only [Act.put, List.setIfInBounds_toArray, List.set_cons_zero, List.set_cons_succ, i64_w, i32_w]
                                rfl
                              refine last_ (i := 25) (N := none) #[true, true, true, true, true, true, true, true, true, true, true, true, true, true, true, true, true, true, true, true, true, true, true, true, true, true] rfl rfl (one_of HT_.out (by kernel_rfl)) (by decide) (fun K hK => ?_)
                              have hs33 : w29.cell? ⟨gb268, 4, none⟩ = some (.int .i64 ((rd_T39 l0 x6_1).f4)) := (blk_cell BK268.out 4).trans rfl
                              have hfs33 := blk_frozen BK268.out 4
                              refine skip_ (w1 := ?_) (by rfl) rfl ?_ ?_
                              rotate_left
                              · go_simp
                                rfl
                              refine hK.out _ _ ?_
                              clear hK K
                              refine done_ (done_of HT_.out (by kernel_rfl)) ?_
                              try go_wp2
                              have n0_ : Aside0 (Kd.R k39 39 ((((w29.setCell ⟨gb268, 0, none⟩ (.int .i64 (wrap64 (Int.tmod (IntKind.u64.wrap (((rd_T39 l0 x6_1).f0))) x8_7)))).setCell ⟨gb268, 1, none⟩ (.int .i64 (wrap64 (Int.tmod (IntKind.u64.wrap (((rd_T39 l0 x6_1).f1))) x8_7)))).setCell ⟨gb268, 3, none⟩ (.int .i64 (Go.bits .and .i64 ((rd_T39 l0 x6_1).f3) 3))).setCell ⟨gb268, 4, none⟩ (.int .i64 (Go.bits .and .i64 ((rd_T39 l0 x6_1).f4) 3))) w.heap.size (fun k_ => k_ ≠ gb268) u5 x5_1) := ⟨by (with_reducible repeat (first | apply Kd.R_alloc | apply Kd.R_drewN | apply Kd.R_drew)); exact Kd.R_mono (Kd.R_far (p := ⟨gb268, 4, none⟩) (Kd.R_far (p := ⟨gb268, 3, none⟩) (Kd.R_far (p := ⟨gb268, 1, none⟩) (Kd.R_far (p := ⟨gb268, 0, none⟩) (Kd.R_mono HO_5.out (fun k_ hk => (⟨hk, hk⟩ : _ ∧ k_ ≠ gb268))) (fun _ hk => hk.2) (.int .i64 (wrap64 (Int.tmod (IntKind.u64.wrap (((rd_T39 l0 x6_1).f0))) x8_7)))) (fun _ hk => hk.2) (.int .i64 (wrap64 (Int.tmod (IntKind.u64.wrap (((rd_T39 l0 x6_1).f1))) x8_7)))) (fun _ hk => hk.2) (.int .i64 (Go.bits .and .i64 ((rd_T39 l0 x6_1).f3) 3))) (fun _ hk => hk.2) (.int .i64 (Go.bits .and .i64 ((rd_T39 l0 x6_1).f4) 3))) (fun _ hk => hk.1)⟩
                              have n1_ : Aside0 (((((w29.setCell ⟨gb268, 0, none⟩ (.int .i64 (wrap64 (Int.tmod (IntKind.u64.wrap (((rd_T39 l0 x6_1).f0))) x8_7)))).setCell ⟨gb268, 1, none⟩ (.int .i64 (wrap64 (Int.tmod (IntKind.u64.wrap (((rd_T39 l0 x6_1).f1))) x8_7)))).setCell ⟨gb268, 3, none⟩ (.int .i64 (Go.bits .and .i64 ((rd_T39 l0 x6_1).f3) 3))).setCell ⟨gb268, 4, none⟩ (.int .i64 (Go.bits .and .i64 ((rd_T39 l0 x6_1).f4) 3))).heap[gb268]? = some (.cells #[.int .i64 (wrap64 (Int.tmod (IntKind.u64.wrap (((rd_T39 l0 x6_1).f0))) x8_7)), .int .i64 (wrap64 (Int.tmod (IntKind.u64.wrap (((rd_T39 l0 x6_1).f1))) x8_7)), .int .i64 ((rd_T39 l0 x6_1).f2), .int .i64 (Go.bits .and .i64 ((rd_T39 l0 x6_1).f3) 3), .int .i64 (Go.bits .and .i64 ((rd_T39 l0 x6_1).f4) 3), .int .i64 ((rd_T39 l0 x6_1).f5)] 39 (0, 0))) := ⟨by (with_reducible repeat (first | refine blk_drewN ?_ _ | refine blk_drew ?_ | refine blk_alloc ?_ _)); refine blk_put (cs := #[.int .i64 (wrap64 (Int.tmod (IntKind.u64.wrap (((rd_T39 l0 x6_1).f0))) x8_7)), .int .i64 (wrap64 (Int.tmod (IntKind.u64.wrap (((rd_T39 l0 x6_1).f1))) x8_7)), .int .i64 ((rd_T39 l0 x6_1).f2), .int .i64 (Go.bits .and .i64 ((rd_T39 l0 x6_1).f3) 3), .int .i64 ((rd_T39 l0 x6_1).f4), .int .i64 ((rd_T39 l0 x6_1).f5)]) ?_ 4 _ rfl; (with_reducible repeat (first | refine blk_drewN ?_ _ | refine blk_drew ?_ | refine blk_alloc ?_ _)); refine blk_put (cs := #[.int .i64 (wrap64 (Int.tmod (IntKind.u64.wrap (((rd_T39 l0 x6_1).f0))) x8_7)), .int .i64 (wrap64 (Int.tmod (IntKind.u64.wrap (((rd_T39 l0 x6_1).f1))) x8_7)), .int .i64 ((rd_T39 l0 x6_1).f2), .int .i64 ((rd_T39 l0 x6_1).f3), .int .i64 ((rd_T39 l0 x6_1).f4), .int .i64 ((rd_T39 l0 x6_1).f5)]) ?_ 3 _ rfl; (with_reducible repeat (first | refine blk_drewN ?_ _ | refine blk_drew ?_ | refine blk_alloc ?_ _)); refine blk_put (cs := #[.int .i64 (wrap64 (Int.tmod (IntKind.u64.wrap (((rd_T39 l0 x6_1).f0))) x8_7)), .int .i64 ((rd_T39 l0 x6_1).f1), .int .i64 ((rd_T39 l0 x6_1).f2), .int .i64 ((rd_T39 l0 x6_1).f3), .int .i64 ((rd_T39 l0 x6_1).f4), .int .i64 ((rd_T39 l0 x6_1).f5)]) ?_ 1 _ rfl; (with_reducible repeat (first | refine blk_drewN ?_ _ | refine blk_drew ?_ | refine blk_alloc ?_ _)); refine blk_put (cs := #[.int .i64 ((rd_T39 l0 x6_1).f0), .int .i64 ((rd_T39 l0 x6_1).f1), .int .i64 ((rd_T39 l0 x6_1).f2), .int .i64 ((rd_T39 l0 x6_1).f3), .int .i64 ((rd_T39 l0 x6_1).f4), .int .i64 ((rd_T39 l0 x6_1).f5)]) ?_ 0 _ rfl; (with_reducible repeat (first | refine blk_drewN ?_ _ | refine blk_drew ?_ | refine blk_alloc ?_ _)); exact BK268.out⟩
                              have n2_ : Aside0 (Below w.heap.size w ((((w29.setCell ⟨gb268, 0, none⟩ (.int .i64 (wrap64 (Int.tmod (IntKind.u64.wrap (((rd_T39 l0 x6_1).f0))) x8_7)))).setCell ⟨gb268, 1, none⟩ (.int .i64 (wrap64 (Int.tmod (IntKind.u64.wrap (((rd_T39 l0 x6_1).f1))) x8_7)))).setCell ⟨gb268, 3, none⟩ (.int .i64 (Go.bits .and .i64 ((rd_T39 l0 x6_1).f3) 3))).setCell ⟨gb268, 4, none⟩ (.int .i64 (Go.bits .and .i64 ((rd_T39 l0 x6_1).f4) 3)))) := ⟨by repeat (first | (with_reducible first | exact HB.out | apply below_alloc | apply pw_below_drewN | apply below_drew1 | refine below_set ?_ GE268.out) | exact HB.out)⟩
                              (try clear HO_5)
                              (try clear BK268)
                              (try clear HB)
                              generalize ((((w29.setCell ⟨gb268, 0, none⟩ (.int .i64 (wrap64 (Int.tmod (IntKind.u64.wrap (((rd_T39 l0 x6_1).f0))) x8_7)))).setCell ⟨gb268, 1, none⟩ (.int .i64 (wrap64 (Int.tmod (IntKind.u64.wrap (((rd_T39 l0 x6_1).f1))) x8_7)))).setCell ⟨gb268, 3, none⟩ (.int .i64 (Go.bits .and .i64 ((rd_T39 l0 x6_1).f3) 3))).setCell ⟨gb268, 4, none⟩ (.int .i64 (Go.bits .and .i64 ((rd_T39 l0 x6_1).f4) 3))) = w34 at n0_ n1_ n2_ ⊢
                              have HO_5 := n0_
                              have BK268 := n1_
                              have HB := n2_
                              clear n0_ n1_ n2_
                              have n0_ := Aside0.mk (Kd.R_drew HO_5.out)
                              have n1_ := Aside0.mk (blk_drew BK268.out)
                              have n2_ := Aside0.mk (below_drew1 HB.out)
                              clear HO_5
                              clear BK268
                              clear HB
                              have HO_5 := n0_
                              have BK268 := n1_
                              have HB := n2_
                              clear n0_ n1_ n2_
                              refine start_ (n := 16) (S := fun w' => w'.cell? ⟨gb268, 0, none⟩ = some (.int .i64 (wrap64 (Int.tmod (IntKind.u64.wrap (((rd_T39 l0 x6_1).f0))) x8_7))) ∧ w'.cell? ⟨gb268, 1, none⟩ = some (.int .i64 (wrap64 (Int.tmod (IntKind.u64.wrap (((rd_T39 l0 x6_1).f1))) x8_7))) ∧ w'.cell? ⟨gb268, 2, none⟩ = some (.int .i64 ((rd_T39 l0 x6_1).f2)) ∧ w'.cell? ⟨gb268, 3, none⟩ = some (.int .i64 (Go.bits .and .i64 ((rd_T39 l0 x6_1).f3) 3)) ∧ w'.cell? ⟨gb268, 4, none⟩ = some (.int .i64 (Go.bits .and .i64 ((rd_T39 l0 x6_1).f4) 3)) ∧ w'.cell? ⟨gb268, 5, none⟩ = some (.int .i64 ((rd_T39 l0 x6_1).f5))) (ds := [13, 15]) #[false, false, false, false, false, false, false, false, false, false, false, false, false, false, false, false] (by kernel_rfl) rfl rfl ⟨(blk_cell BK268.out 0).trans rfl, (blk_cell BK268.out 1).trans rfl, (blk_cell BK268.out 2).trans rfl, (blk_cell BK268.out 3).trans rfl, (blk_cell BK268.out 4).trans rfl, (blk_cell BK268.out 5).trans rfl⟩ (fun hHeld => ?_); refine with_tabW quoinlaw18_Tame.tab10 quoinlaw18_Tame.bits10 (fun HT_ HW_ => ?_)
                              generalize w34.drew = w35 at HO_5 BK268 HB hHeld ⊢
                              refine pure_ (i := 0) (N := some 46) (v := ?_) (a' := ?_) #[true, false, false, false, false, false, false, false, false, false, false, false, false, false, false, false] rfl rfl (any_of HT_.out (by kernel_rfl)) (fun _ _ _ h => h) (Or.inl ⟨by rfl, ?_⟩) ?_ ?_
                              rotate_left
                              · intro w'
                                go_simp
                                with_reducible rfl
                              rotate_left
                              · simp only [Act.put, List.setIfInBounds_toArray, List.set_cons_zero, List.set_cons_succ, i64_w, i32_w]
                                rfl
                              refine pure_ (i := 3) (N := some 49) (v := ?_) (a' := ?_) #[true, false, false, true, false, false, false, false, false, false, false, false, false, false, false, false] rfl rfl (any_of HT_.out (by kernel_rfl)) (fun _ _ _ h => h) (Or.inl ⟨by rfl, ?_⟩) ?_ ?_
                              rotate_left
                              · intro w'
                                go_simp
                                with_reducible rfl
                              rotate_left
                              · simp only [Act.put, List.setIfInBounds_toArray, List.set_cons_zero, List.set_cons_succ, i64_w, i32_w]
                                rfl
                              refine pure_ (i := 6) (N := some 52) (v := ?_) (a' := ?_) #[true, false, false, true, false, false, true, false, false, false, false, false, false, false, false, false] rfl rfl (any_of HT_.out (by kernel_rfl)) (fun _ _ _ h => h) (Or.inl ⟨by rfl, ?_⟩) ?_ ?_
                              rotate_left
                              · intro w'
                                go_simp
                                with_reducible rfl
                              rotate_left
                              · simp only [Act.put, List.setIfInBounds_toArray, List.set_cons_zero, List.set_cons_succ, i64_w, i32_w]
                                rfl
                              refine pure_ (i := 8) (N := some 54) (v := ?_) (a' := ?_) #[true, false, false, true, false, false, true, false, true, false, false, false, false, false, false, false] rfl rfl (any_of HT_.out (by kernel_rfl)) (fun _ _ _ h => h) (Or.inl ⟨by rfl, ?_⟩) ?_ ?_
                              rotate_left
                              · intro w'
                                go_simp
                                with_reducible rfl
                              rotate_left
                              · simp only [Act.put, List.setIfInBounds_toArray, List.set_cons_zero, List.set_cons_succ, i64_w, i32_w]
                                rfl
                              refine pure_ (i := 9) (N := some 55) (v := ?_) (a' := ?_) #[true, false, false, true, false, false, true, false, true, true, false, false, false, false, false, false] rfl rfl (any_of HT_.out (by kernel_rfl)) (fun _ _ _ h => h) (Or.inl ⟨by rfl, ?_⟩) ?_ ?_
                              rotate_left
                              · intro w'
                                go_simp
                                with_reducible rfl
                              rotate_left
                              · simp only [Act.put, List.setIfInBounds_toArray, List.set_cons_zero, List.set_cons_succ, i64_w, i32_w]
                                rfl
                              refine pure_ (i := 10) (N := some 56) (v := ?_) (a' := ?_) #[true, false, false, true, false, false, true, false, true, true, true, false, false, false, false, false] rfl rfl (any_of HT_.out (by kernel_rfl)) (fun _ _ _ h => h) (Or.inl ⟨by rfl, ?_⟩) ?_ ?_
                              rotate_left
                              · intro w'
                                go_simp
                                with_reducible rfl
                              rotate_left
                              · simp only [Act.put, List.setIfInBounds_toArray, List.set_cons_zero, List.set_cons_succ, i64_w, i32_w]
                                rfl
                              refine take_ (i := 1) (N := some 47) (v := ?_) (a' := ?_) #[true, true, false, true, false, false, true, false, true, true, true, false, false, false, false, false] rfl rfl (take_ofW HT_.out HW_.out (by kernel_rfl)) (fun _ _ _ h => h) (Or.inl ⟨by rfl, ?_⟩) hHeld ?_ ?_
                              rotate_left
                              · rintro w' ⟨s0, s1, s2, s3, s4, s5⟩
                                go_simp
                                with_reducible rfl
                              rotate_left
                              · simp only [Act.put, List.setIfInBounds_toArray, List.set_cons_zero, List.set_cons_succ, i64_w, i32_w]
                                rfl
                              refine pure_ (i := 2) (N := some 48) (v := ?_) (a' := ?_) #[true, true, true, true, false, false, true, false, true, true, true, false, false, false, false, false] rfl rfl (any_of HT_.out (by kernel_rfl)) (fun _ _ _ h => h) (Or.inl ⟨by rfl, ?_⟩) ?_ ?_
                              rotate_left
                              · intro w'
                                go_simp
                                with_reducible rfl
                              rotate_left
                              · simp only [Act.put, List.setIfInBounds_toArray, List.set_cons_zero, List.set_cons_succ, i64_w, i32_w]
                                rfl
                              refine pure_ (i := 4) (N := some 50) (v := ?_) (a' := ?_) #[true, true, true, true, true, false, true, false, true, true, true, false, false, false, false, false] rfl rfl (any_of HT_.out (by kernel_rfl)) (fun _ _ _ h => h) (Or.inl ⟨by rfl, ?_⟩) ?_ ?_
                              rotate_left
                              · intro w'
                                go_simp
                                with_reducible rfl
                              rotate_left
                              · simp only [Act.put, List.setIfInBounds_toArray, List.set_cons_zero, List.set_cons_succ, i64_w, i32_w]
                                rfl
                              refine pure_ (i := 5) (N := some 51) (v := ?_) (a' := ?_) #[true, true, true, true, true, true, true, false, true, true, true, false, false, false, false, false] rfl rfl (any_of HT_.out (by kernel_rfl)) (fun _ _ _ h => h) (Or.inl ⟨by rfl, ?_⟩) ?_ ?_
                              rotate_left
                              · intro w'
                                go_simp
                                with_reducible rfl
                              rotate_left
                              · simp only [Act.put, List.setIfInBounds_toArray, List.set_cons_zero, List.set_cons_succ, i64_w, i32_w]
                                rfl
                              refine take_ (i := 7) (N := some 53) (v := ?_) (a' := ?_) #[true, true, true, true, true, true, true, true, true, true, true, false, false, false, false, false] rfl rfl (take_ofW HT_.out HW_.out (by kernel_rfl)) (fun _ _ _ h => h) (Or.inl ⟨by rfl, ?_⟩) hHeld ?_ ?_
                              rotate_left
                              · rintro w' ⟨s0, s1, s2, s3, s4, s5⟩
                                go_simp
                                with_reducible rfl
                              rotate_left
                              · simp only [Act.put, List.setIfInBounds_toArray, List.set_cons_zero, List.set_cons_succ, i64_w, i32_w]
                                rfl
                              refine pure_ (i := 11) (N := some 57) (v := ?_) (a' := ?_) #[true, true, true, true, true, true, true, true, true, true, true, true, false, false, false, false] rfl rfl (any_of HT_.out (by kernel_rfl)) (fun _ _ _ h => h) (Or.inl ⟨by rfl, ?_⟩) ?_ ?_
                              rotate_left
                              · intro w'
                                go_simp
                                with_reducible rfl
                              rotate_left
                              · simp only [Act.put, List.setIfInBounds_toArray, List.set_cons_zero, List.set_cons_succ, i64_w, i32_w]
                                rfl
                              refine pure_ (i := 12) (N := some 58) (v := ?_) (a' := ?_) #[true, true, true, true, true, true, true, true, true, true, true, true, true, false, false, false] rfl rfl (any_of HT_.out (by kernel_rfl)) (fun _ _ _ h => h) (Or.inl ⟨by rfl, ?_⟩) ?_ ?_
                              rotate_left
                              · intro w'
                                go_simp
                                with_reducible rfl
                              rotate_left
                              · simp only [Act.put, List.setIfInBounds_toArray, List.set_cons_zero, List.set_cons_succ, i64_w, i32_w]
                                rfl
                              refine last_ (i := 13) (N := none) #[true, true, true, true, true, true, true, true, true, true, true, true, true, true, false, false] rfl rfl (one_of HT_.out (by kernel_rfl)) (by decide) (fun K hK => ?_)
                              have hs36 : w35.cell? ⟨gb268, 2, none⟩ = some (.int .i64 ((rd_T39 l0 x6_1).f2)) := (blk_cell BK268.out 2).trans rfl
                              have hfs36 := blk_frozen BK268.out 2
                              refine skip_ (w1 := ?_) (by rfl) rfl ?_ ?_
                              rotate_left
                              · go_simp
                                rfl
                              refine hK.out _ _ ?_
                              clear hK K
                              refine pure_ (i := 14) (N := some 59) (v := ?_) (a' := ?_) #[true, true, true, true, true, true, true, true, true, true, true, true, true, true, true, false] rfl rfl (any_of HT_.out (by kernel_rfl)) (fun _ _ _ h => h) (Or.inl ⟨by rfl, ?_⟩) ?_ ?_
                              rotate_left
                              · intro w'
                                go_simp
                                with_reducible rfl
                              rotate_left
                              · simp only [Act.put, List.setIfInBounds_toArray, List.set_cons_zero, List.set_cons_succ, i64_w, i32_w]
                                rfl
                              refine last_ (i := 15) (N := none) #[true, true, true, true, true, true, true, true, true, true, true, true, true, true, true, true] rfl rfl (one_of HT_.out (by kernel_rfl)) (by decide) (fun K hK => ?_)
                              have hs37 : w35.cell? ⟨gb268, 5, none⟩ = some (.int .i64 ((rd_T39 l0 x6_1).f5)) := (blk_cell BK268.out 5).trans rfl
                              have hfs37 := blk_frozen BK268.out 5
                              refine skip_ (w1 := ?_) (by rfl) rfl ?_ ?_
                              rotate_left
                              · go_simp
                                rfl
                              refine hK.out _ _ ?_
                              clear hK K
                              refine done_ (done_of HT_.out (by kernel_rfl)) ?_
                              have hcz38_0 : w35.cell? ⟨gb268, 0, none⟩ = some (.int .i64 (wrap64 (Int.tmod (IntKind.u64.wrap (((rd_T39 l0 x6_1).f0))) x8_7))) := (blk_cell BK268.out 0).trans rfl
                              have hcz38_1 : w35.cell? ⟨gb268, 1, none⟩ = some (.int .i64 (wrap64 (Int.tmod (IntKind.u64.wrap (((rd_T39 l0 x6_1).f1))) x8_7))) := (blk_cell BK268.out 1).trans rfl
                              have hcz38_2 : w35.cell? ⟨gb268, 2, none⟩ = some (.int .i64 ((rd_T39 l0 x6_1).f2)) := (blk_cell BK268.out 2).trans rfl
                              have hcz38_3 : w35.cell? ⟨gb268, 3, none⟩ = some (.int .i64 (Go.bits .and .i64 ((rd_T39 l0 x6_1).f3) 3)) := (blk_cell BK268.out 3).trans rfl
                              have hcz38_4 : w35.cell? ⟨gb268, 4, none⟩ = some (.int .i64 (Go.bits .and .i64 ((rd_T39 l0 x6_1).f4) 3)) := (blk_cell BK268.out 4).trans rfl
                              have hcz38_5 : w35.cell? ⟨gb268, 5, none⟩ = some (.int .i64 ((rd_T39 l0 x6_1).f5)) := (blk_cell BK268.out 5).trans rfl
                              have hfz38_0 := blk_frozen BK268.out 0
                              have hfz38_1 := blk_frozen BK268.out 1
                              have hfz38_2 := blk_frozen BK268.out 2
                              have hfz38_3 := blk_frozen BK268.out 3
                              have hfz38_4 := blk_frozen BK268.out 4
                              have hfz38_5 := blk_frozen BK268.out 5
                              try go_wp2_with (first | ((with_reducible refine gate_builtin (b := .append) (xs := #[.tmp 70, .tmp 72]) rfl ?_); at_builtin; refine Kd.R_append k39 (w0 := w) w.heap.size rfl (.tmp 70) (.tmp 72) 36 39 (.agg #[(.int .i64 0), (.int .i64 0), (.int .i64 0), (.int .i64 0), (.int .i64 0), (.int .i64 0)]) 48 rfl Try.underlying36 info39 rfl (by decide) (by omega) u5 x5_1 (⟨wrap64 (Int.tmod (IntKind.u64.wrap (((rd_T39 l0 x6_1).f0))) x8_7), 0, wrap64 (Int.tmod (IntKind.u64.wrap (((rd_T39 l0 x6_1).f2))) x8_7), Go.bits .and .i64 ((rd_T39 l0 x6_1).f3) 3, Go.bits .and .i64 ((rd_T39 l0 x6_1).f4) 3, Int.tmod ((rd_T39 l0 x6_1).f5) (wrap64 (IntKind.u64.wrap (Int.tdiv x8_7 4)))⟩ : S39) [.int .i64 (wrap64 (Int.tmod (IntKind.u64.wrap (((rd_T39 l0 x6_1).f0))) x8_7)), .int .i64 0, .int .i64 (wrap64 (Int.tmod (IntKind.u64.wrap (((rd_T39 l0 x6_1).f2))) x8_7)), .int .i64 (Go.bits .and .i64 ((rd_T39 l0 x6_1).f3) 3), .int .i64 (Go.bits .and .i64 ((rd_T39 l0 x6_1).f4) 3), .int .i64 (Int.tmod ((rd_T39 l0 x6_1).f5) (wrap64 (IntKind.u64.wrap (Int.tdiv x8_7 4))))] (fun k_ => k_ ≠ gb268) (fun _ => False) rfl (by first | (go_simp; done) | (go_simp; rfl)) ?aP (fun _ hk => hk.elim) ?aF ?aO ?aB ?aS ?aL ?_; (case aP => exact k39_mkM _ _ _ (⟨wrap64 (Int.tmod (IntKind.u64.wrap (((rd_T39 l0 x6_1).f0))) x8_7), 0, wrap64 (Int.tmod (IntKind.u64.wrap (((rd_T39 l0 x6_1).f2))) x8_7), Go.bits .and .i64 ((rd_T39 l0 x6_1).f3) 3, Go.bits .and .i64 ((rd_T39 l0 x6_1).f4) 3, Int.tmod ((rd_T39 l0 x6_1).f5) (wrap64 (IntKind.u64.wrap (Int.tdiv x8_7 4)))⟩ : S39)); (case aB => exact (by repeat (first | (with_reducible first | exact HB.out | apply below_alloc | apply pw_below_drewN | apply below_drew1 | refine below_set ?_ GE268.out) | exact HB.out))); (case aF => exact (fun k_ hk => Kd.freshB (g := gb268) (o := .cells #[.int .i64 (wrap64 (Int.tmod (IntKind.u64.wrap (((rd_T39 l0 x6_1).f0))) x8_7)), .int .i64 0, .int .i64 (wrap64 (Int.tmod (IntKind.u64.wrap (((rd_T39 l0 x6_1).f2))) x8_7)), .int .i64 (Go.bits .and .i64 ((rd_T39 l0 x6_1).f3) 3), .int .i64 (Go.bits .and .i64 ((rd_T39 l0 x6_1).f4) 3), .int .i64 (Int.tmod ((rd_T39 l0 x6_1).f5) (wrap64 (IntKind.u64.wrap (Int.tdiv x8_7 4))))] 39 (0, 0)) (by (with_reducible repeat (first | refine blk_drewN ?_ _ | refine blk_drew ?_ | refine blk_alloc ?_ _)); refine blk_put (cs := #[.int .i64 (wrap64 (Int.tmod (IntKind.u64.wrap (((rd_T39 l0 x6_1).f0))) x8_7)), .int .i64 (wrap64 (Int.tmod (IntKind.u64.wrap (((rd_T39 l0 x6_1).f1))) x8_7)), .int .i64 (wrap64 (Int.tmod (IntKind.u64.wrap (((rd_T39 l0 x6_1).f2))) x8_7)), .int .i64 (Go.bits .and .i64 ((rd_T39 l0 x6_1).f3) 3), .int .i64 (Go.bits .and .i64 ((rd_T39 l0 x6_1).f4) 3), .int .i64 (Int.tmod ((rd_T39 l0 x6_1).f5) (wrap64 (IntKind.u64.wrap (Int.tdiv x8_7 4))))]) ?_ 1 _ rfl; (with_reducible repeat (first | refine blk_drewN ?_ _ | refine blk_drew ?_ | refine blk_alloc ?_ _)); refine blk_put (cs := #[.int .i64 (wrap64 (Int.tmod (IntKind.u64.wrap (((rd_T39 l0 x6_1).f0))) x8_7)), .int .i64 (wrap64 (Int.tmod (IntKind.u64.wrap (((rd_T39 l0 x6_1).f1))) x8_7)), .int .i64 (wrap64 (Int.tmod (IntKind.u64.wrap (((rd_T39 l0 x6_1).f2))) x8_7)), .int .i64 (Go.bits .and .i64 ((rd_T39 l0 x6_1).f3) 3), .int .i64 (Go.bits .and .i64 ((rd_T39 l0 x6_1).f4) 3), .int .i64 ((rd_T39 l0 x6_1).f5)]) ?_ 5 _ rfl; (with_reducible repeat (first | refine blk_drewN ?_ _ | refine blk_drew ?_ | refine blk_alloc ?_ _)); refine blk_put (cs := #[.int .i64 (wrap64 (Int.tmod (IntKind.u64.wrap (((rd_T39 l0 x6_1).f0))) x8_7)), .int .i64 (wrap64 (Int.tmod (IntKind.u64.wrap (((rd_T39 l0 x6_1).f1))) x8_7)), .int .i64 ((rd_T39 l0 x6_1).f2), .int .i64 (Go.bits .and .i64 ((rd_T39 l0 x6_1).f3) 3), .int .i64 (Go.bits .and .i64 ((rd_T39 l0 x6_1).f4) 3), .int .i64 ((rd_T39 l0 x6_1).f5)]) ?_ 2 _ rfl; (with_reducible repeat (first | refine blk_drewN ?_ _ | refine blk_drew ?_ | refine blk_alloc ?_ _)); exact BK268.out) k_ hk)); (case aO => exact (by (with_reducible repeat (first | apply Kd.R_alloc | apply Kd.R_drewN | apply Kd.R_drew)); exact Kd.R_mono (Kd.R_far (p := ⟨gb268, 1, none⟩) (Kd.R_far (p := ⟨gb268, 5, none⟩) (Kd.R_far (p := ⟨gb268, 2, none⟩) (Kd.R_mono HO_5.out (fun k_ hk => (⟨hk, hk⟩ : _ ∧ k_ ≠ gb268))) (fun _ hk => hk.2) (.int .i64 (wrap64 (Int.tmod (IntKind.u64.wrap (((rd_T39 l0 x6_1).f2))) x8_7)))) (fun _ hk => hk.2) (.int .i64 (Int.tmod ((rd_T39 l0 x6_1).f5) (wrap64 (IntKind.u64.wrap (Int.tdiv x8_7 4)))))) (fun _ hk => hk.2) (.int .i64 0)) (fun _ hk => hk.1))); (case aS => exact (below_size (by repeat (first | (with_reducible first | exact HB.out | apply below_alloc | apply pw_below_drewN | apply below_drew1 | refine below_set ?_ GE268.out) | exact HB.out)))); (case aL => have := LMc28.out; omega); intro v273 w39 ho hb hg hat; rw [← Ny272.out] at ho; have n0_ := Aside0.mk (blk_grown (g := gb268) (o := .cells #[.int .i64 (wrap64 (Int.tmod (IntKind.u64.wrap (((rd_T39 l0 x6_1).f0))) x8_7)), .int .i64 0, .int .i64 (wrap64 (Int.tmod (IntKind.u64.wrap (((rd_T39 l0 x6_1).f2))) x8_7)), .int .i64 (Go.bits .and .i64 ((rd_T39 l0 x6_1).f3) 3), .int .i64 (Go.bits .and .i64 ((rd_T39 l0 x6_1).f4) 3), .int .i64 (Int.tmod ((rd_T39 l0 x6_1).f5) (wrap64 (IntKind.u64.wrap (Int.tdiv x8_7 4))))] 39 (0, 0)) (by (with_reducible repeat (first | refine blk_drewN ?_ _ | refine blk_drew ?_ | refine blk_alloc ?_ _)); refine blk_put (cs := #[.int .i64 (wrap64 (Int.tmod (IntKind.u64.wrap (((rd_T39 l0 x6_1).f0))) x8_7)), .int .i64 (wrap64 (Int.tmod (IntKind.u64.wrap (((rd_T39 l0 x6_1).f1))) x8_7)), .int .i64 (wrap64 (Int.tmod (IntKind.u64.wrap (((rd_T39 l0 x6_1).f2))) x8_7)), .int .i64 (Go.bits .and .i64 ((rd_T39 l0 x6_1).f3) 3), .int .i64 (Go.bits .and .i64 ((rd_T39 l0 x6_1).f4) 3), .int .i64 (Int.tmod ((rd_T39 l0 x6_1).f5) (wrap64 (IntKind.u64.wrap (Int.tdiv x8_7 4))))]) ?_ 1 _ rfl; (with_reducible repeat (first | refine blk_drewN ?_ _ | refine blk_drew ?_ | refine blk_alloc ?_ _)); refine blk_put (cs := #[.int .i64 (wrap64 (Int.tmod (IntKind.u64.wrap (((rd_T39 l0 x6_1).f0))) x8_7)), .int .i64 (wrap64 (Int.tmod (IntKind.u64.wrap (((rd_T39 l0 x6_1).f1))) x8_7)), .int .i64 (wrap64 (Int.tmod (IntKind.u64.wrap (((rd_T39 l0 x6_1).f2))) x8_7)), .int .i64 (Go.bits .and .i64 ((rd_T39 l0 x6_1).f3) 3), .int .i64 (Go.bits .and .i64 ((rd_T39 l0 x6_1).f4) 3), .int .i64 ((rd_T39 l0 x6_1).f5)]) ?_ 5 _ rfl; (with_reducible repeat (first | refine blk_drewN ?_ _ | refine blk_drew ?_ | refine blk_alloc ?_ _)); refine blk_put (cs := #[.int .i64 (wrap64 (Int.tmod (IntKind.u64.wrap (((rd_T39 l0 x6_1).f0))) x8_7)), .int .i64 (wrap64 (Int.tmod (IntKind.u64.wrap (((rd_T39 l0 x6_1).f1))) x8_7)), .int .i64 ((rd_T39 l0 x6_1).f2), .int .i64 (Go.bits .and .i64 ((rd_T39 l0 x6_1).f3) 3), .int .i64 (Go.bits .and .i64 ((rd_T39 l0 x6_1).f4) 3), .int .i64 ((rd_T39 l0 x6_1).f5)]) ?_ 2 _ rfl; (with_reducible repeat (first | refine blk_drewN ?_ _ | refine blk_drew ?_ | refine blk_alloc ?_ _)); exact BK268.out) hg (Kd.R_away HO_5.out (fun _ hk => hk))); have n1_ := Aside0.mk (hb); have n2_ := Aside0.mk (ho); clear BK268; clear HB; clear HO_5; have BK268 := n0_; have HB := n1_; have HO274 := n2_; clear n0_ n1_ n2_; clear ho hb hg hat))
                              go_roundg kj7
                              case measure => have := HK1.out; have := HJ2.out; have := HJ7.out; omega
                              case rel => exact ⟨(y272), (wrap64 (x6_1 + 1)), (by first | rfl | (simp; done) | (simp [*]; done)), H', ⟨by have := HK1.out; have := HJ2.out; have := HJ7.out; omega⟩, ⟨by (with_reducible repeat (first | apply Kd.R_alloc | apply Kd.R_drewN | apply Kd.R_drew)); exact Kd.R_mono HO274.out (fun _ hk => trivial)⟩, ⟨by repeat (first | (with_reducible first | exact HB.out | apply below_alloc | apply pw_below_drewN | apply below_drew1 | refine below_set ?_ GE268.out) | exact HB.out)⟩⟩
                            · rw [if_neg c28] at H
                              exact absurd H (by simp)
                        · rw [if_neg c14] at H
                          have c14b0 : ((Go.bits .and .i64 (wrap64 (Int.tmod (IntKind.u64.wrap (((rd_T39 l0 x6_1).f1))) x8_7)) 1) == 1) = false := beq_eq_false_iff_ne.mpr c14
                          have c14b1 : ((Go.bits .and .i64 (wrap64 (Int.tmod (IntKind.u64.wrap (((rd_T39 l0 x6_1).f1))) x8_7)) 1) != 1) = true := bne_iff_ne.mpr c14
                          by_cases c40 : (Go.bits .and .i64 (wrap64 (Int.tmod (IntKind.u64.wrap (((rd_T39 l0 x6_1).f2))) x8_7)) 3) > 0
                          · rw [if_pos c40] at H
                            have c40b0 : decide (0 < (Go.bits .and .i64 (wrap64 (Int.tmod (IntKind.u64.wrap (((rd_T39 l0 x6_1).f2))) x8_7)) 3)) = true := decide_eq_true c40
                            clear c40
                            by_cases c41 : x5_1.length < 2932031007402
                            · rw [if_pos c41] at H
                              have LMc41 := Aside0.mk c41
                              clear c41
                              obtain ⟨y275, hy275⟩ : ∃ y_ : List (S39), y_ = (x5_1 ++ [(⟨wrap64 (Int.tmod (IntKind.u64.wrap (((rd_T39 l0 x6_1).f0))) x8_7), wrap64 (Int.tmod (IntKind.u64.wrap (((rd_T39 l0 x6_1).f1))) x8_7), (-1), Go.bits .and .i64 ((rd_T39 l0 x6_1).f3) 3, Go.bits .and .i64 ((rd_T39 l0 x6_1).f4) 3, Int.tmod ((rd_T39 l0 x6_1).f5) (wrap64 (IntKind.u64.wrap (Int.tdiv x8_7 4)))⟩ : S39)]) := ⟨_, rfl⟩
                              replace H : (quoinlaw18_Tame.l0 kj7 l0 a1 y275 (wrap64 (x6_1 + 1))) = some r := by first | (rw [hy275]; with_reducible exact H) | (have H2_ := (Option.bind_some _ _).symm.trans H; rw [hy275]; with_reducible exact H2_) | (have H2_ := (Option.bind_some _ _).symm.trans H; with_reducible exact H2_) | with_reducible exact H | (rw [hy275]; exact H) | exact H
                              have Ny275 := Aside0.mk hy275
                              clear hy275
                              have H' := Aside0.mk H
                              clear H
                              try go_wp2
                              have n0_ := Aside0.mk (Kd.R_drew HO_5.out)
                              have n1_ := Aside0.mk (blk_drew BK268.out)
                              have n2_ := Aside0.mk (below_drew1 HB.out)
                              clear HO_5
                              clear BK268
                              clear HB
                              have HO_5 := n0_
                              have BK268 := n1_
                              have HB := n2_
                              clear n0_ n1_ n2_
                              refine start_ (n := 26) (S := fun w' => w'.cell? ⟨gb268, 0, none⟩ = some (.int .i64 ((rd_T39 l0 x6_1).f0)) ∧ w'.cell? ⟨gb268, 1, none⟩ = some (.int .i64 ((rd_T39 l0 x6_1).f1)) ∧ w'.cell? ⟨gb268, 2, none⟩ = some (.int .i64 ((rd_T39 l0 x6_1).f2)) ∧ w'.cell? ⟨gb268, 3, none⟩ = some (.int .i64 ((rd_T39 l0 x6_1).f3)) ∧ w'.cell? ⟨gb268, 4, none⟩ = some (.int .i64 ((rd_T39 l0 x6_1).f4)) ∧ w'.cell? ⟨gb268, 5, none⟩ = some (.int .i64 ((rd_T39 l0 x6_1).f5))) (ds := [19, 21, 23, 25]) #[false, false, false, false, false, false, false, false, false, false, false, false, false, false, false, false, false, false, false, false, false, false, false, false, false, false] (by kernel_rfl) rfl rfl ⟨(blk_cell BK268.out 0).trans rfl, (blk_cell BK268.out 1).trans rfl, (blk_cell BK268.out 2).trans rfl, (blk_cell BK268.out 3).trans rfl, (blk_cell BK268.out 4).trans rfl, (blk_cell BK268.out 5).trans rfl⟩ (fun hHeld => ?_); refine with_tabW quoinlaw18_Tame.tab9 quoinlaw18_Tame.bits9 (fun HT_ HW_ => ?_)
                              generalize wc.drew = w42 at HO_5 BK268 HB hHeld ⊢
                              refine pure_ (i := 0) (N := some 24) (v := ?_) (a' := ?_) #[true, false, false, false, false, false, false, false, false, false, false, false, false, false, false, false, false, false, false, false, false, false, false, false, false, false] rfl rfl (any_of HT_.out (by kernel_rfl)) (fun _ _ _ h => h) (Or.inl ⟨by rfl, ?_⟩) ?_ ?_
                              rotate_left
                              · intro w'
                                go_simp
                                with_reducible rfl
                              rotate_left
                              · simp only [Act.put, List.setIfInBounds_toArray, List.set_cons_zero, List.set_cons_succ, i64_w, i32_w]
                                rfl
                              refine pure_ (i := 3) (N := some 27) (v := ?_) (a' := ?_) #[true, false, false, true, false, false, false, false, false, false, false, false, false, false, false, false, false, false, false, false, false, false, false, false, false, false] rfl rfl (any_of HT_.out (by kernel_rfl)) (fun _ _ _ h => h) (Or.inl ⟨by rfl, ?_⟩) ?_ ?_
                              rotate_left
                              · intro w'
                                go_simp
                                with_reducible rfl
                              rotate_left
                              · simp only [Act.put, List.setIfInBounds_toArray, List.set_cons_zero, List.set_cons_succ, i64_w, i32_w]
                                rfl
                              refine pure_ (i := 6) (N := some 30) (v := ?_) (a' := ?_) #[true, false, false, true, false, false, true, false, false, false, false, false, false, false, false, false, false, false, false, false, false, false, false, false, false, false] rfl rfl (any_of HT_.out (by kernel_rfl)) (fun _ _ _ h => h) (Or.inl ⟨by rfl, ?_⟩) ?_ ?_
                              rotate_left
                              · intro w'
                                go_simp
                                with_reducible rfl
                              rotate_left
                              · simp only [Act.put, List.setIfInBounds_toArray, List.set_cons_zero, List.set_cons_succ, i64_w, i32_w]
                                rfl
                              refine pure_ (i := 9) (N := some 33) (v := ?_) (a' := ?_) #[true, false, false, true, false, false, true, false, false, true, false, false, false, false, false, false, false, false, false, false, false, false, false, false, false, false] rfl rfl (any_of HT_.out (by kernel_rfl)) (fun _ _ _ h => h) (Or.inl ⟨by rfl, ?_⟩) ?_ ?_
                              rotate_left
                              · intro w'
                                go_simp
                                with_reducible rfl
                              rotate_left
                              · simp only [Act.put, List.setIfInBounds_toArray, List.set_cons_zero, List.set_cons_succ, i64_w, i32_w]
                                rfl
                              refine pure_ (i := 12) (N := some 36) (v := ?_) (a' := ?_) #[true, false, false, true, false, false, true, false, false, true, false, false, true, false, false, false, false, false, false, false, false, false, false, false, false, false] rfl rfl (any_of HT_.out (by kernel_rfl)) (fun _ _ _ h => h) (Or.inl ⟨by rfl, ?_⟩) ?_ ?_
                              rotate_left
                              · intro w'
                                go_simp
                                with_reducible rfl
                              rotate_left
                              · simp only [Act.put, List.setIfInBounds_toArray, List.set_cons_zero, List.set_cons_succ, i64_w, i32_w]
                                rfl
                              refine pure_ (i := 15) (N := some 39) (v := ?_) (a' := ?_) #[true, false, false, true, false, false, true, false, false, true, false, false, true, false, false, true, false, false, false, false, false, false, false, false, false, false] rfl rfl (any_of HT_.out (by kernel_rfl)) (fun _ _ _ h => h) (Or.inl ⟨by rfl, ?_⟩) ?_ ?_
                              rotate_left
                              · intro w'
                                go_simp
                                with_reducible rfl
                              rotate_left
                              · simp only [Act.put, List.setIfInBounds_toArray, List.set_cons_zero, List.set_cons_succ, i64_w, i32_w]
                                rfl
                              refine take_ (i := 1) (N := some 25) (v := ?_) (a' := ?_) #[true, true, false, true, false, false, true, false, false, true, false, false, true, false, false, true, false, false, false, false, false, false, false, false, false, false] rfl rfl (take_ofW HT_.out HW_.out (by kernel_rfl)) (fun _ _ _ h => h) (Or.inl ⟨by rfl, ?_⟩) hHeld ?_ ?_
                              rotate_left
                              · rintro w' ⟨s0, s1, s2, s3, s4, s5⟩
                                go_simp
                                with_reducible rfl
                              rotate_left
                              · simp only [Act.put, List.setIfInBounds_toArray, List.set_cons_zero, List.set_cons_succ, i64_w, i32_w]
                                rfl
                              refine pure_ (i := 2) (N := some 26) (v := ?_) (a' := ?_) #[true, true, true, true, false, false, true, false, false, true, false, false, true, false, false, true, false, false, false, false, false, false, false, false, false, false] rfl rfl (any_of HT_.out (by kernel_rfl)) (fun _ _ _ h => h) (Or.inl ⟨by rfl, ?_⟩) ?_ ?_
                              rotate_left
                              · intro w'
                                go_simp
                                with_reducible rfl
                              rotate_left
                              · simp only [Act.put, List.setIfInBounds_toArray, List.set_cons_zero, List.set_cons_succ, i64_w, i32_w]
                                rfl
                              refine pure_ (i := 4) (N := some 28) (v := ?_) (a' := ?_) #[true, true, true, true, true, false, true, false, false, true, false, false, true, false, false, true, false, false, false, false, false, false, false, false, false, false] rfl rfl (any_of HT_.out (by kernel_rfl)) (fun _ _ _ h => h) (Or.inl ⟨by rfl, ?_⟩) ?_ ?_
                              rotate_left
                              · intro w'
                                go_simp
                                with_reducible rfl
                              rotate_left
                              · simp only [Act.put, List.setIfInBounds_toArray, List.set_cons_zero, List.set_cons_succ, i64_w, i32_w]
                                rfl
                              refine pure_ (i := 5) (N := some 29) (v := ?_) (a' := ?_) #[true, true, true, true, true, true, true, false, false, true, false, false, true, false, false, true, false, false, false, false, false, false, false, false, false, false] rfl rfl (any_of HT_.out (by kernel_rfl)) (fun _ _ _ h => h) (Or.inl ⟨by rfl, ?_⟩) ?_ ?_
                              rotate_left
                              · intro w'
                                go_simp
                                with_reducible rfl
                              rotate_left
                              · simp only [Act.put, List.setIfInBounds_toArray, List.set_cons_zero, List.set_cons_succ, i64_w, i32_w]
                                rfl
                              refine take_ (i := 7) (N := some 31) (v := ?_) (a' := ?_) #[true, true, true, true, true, true, true, true, false, true, false, false, true, false, false, true, false, false, false, false, false, false, false, false, false, false] rfl rfl (take_ofW HT_.out HW_.out (by kernel_rfl)) (fun _ _ _ h => h) (Or.inl ⟨by rfl, ?_⟩) hHeld ?_ ?_
                              rotate_left
                              · rintro w' ⟨s0, s1, s2, s3, s4, s5⟩
                                go_simp
                                with_reducible rfl
                              rotate_left
                              · simp only [Act.put, List.setIfInBounds_toArray, List.set_cons_zero, List.set_cons_succ, i64_w, i32_w]
                                rfl
                              refine pure_ (i := 8) (N := some 32) (v := ?_) (a' := ?_) #[true, true, true, true, true, true, true, true, true, true, false, false, true, false, false, true, false, false, false, false, false, false, false, false, false, false] rfl rfl (any_of HT_.out (by kernel_rfl)) (fun _ _ _ h => h) (Or.inl ⟨by rfl, ?_⟩) ?_ ?_
                              rotate_left
                              · intro w'
                                go_simp
                                with_reducible rfl
                              rotate_left
                              · simp only [Act.put, List.setIfInBounds_toArray, List.set_cons_zero, List.set_cons_succ, i64_w, i32_w]
                                rfl
                              refine pure_ (i := 10) (N := some 34) (v := ?_) (a' := ?_) #[true, true, true, true, true, true, true, true, true, true, true, false, true, false, false, true, false, false, false, false, false, false, false, false, false, false] rfl rfl (any_of HT_.out (by kernel_rfl)) (fun _ _ _ h => h) (Or.inl ⟨by rfl, ?_⟩) ?_ ?_
                              rotate_left
                              · intro w'
                                go_simp
                                with_reducible rfl
                              rotate_left
                              · simp only [Act.put, List.setIfInBounds_toArray, List.set_cons_zero, List.set_cons_succ, i64_w, i32_w]
                                rfl
                              refine pure_ (i := 11) (N := some 35) (v := ?_) (a' := ?_) #[true, true, true, true, true, true, true, true, true, true, true, true, true, false, false, true, false, false, false, false, false, false, false, false, false, false] rfl rfl (any_of HT_.out (by kernel_rfl)) (fun _ _ _ h => h) (Or.inl ⟨by rfl, ?_⟩) ?_ ?_
                              rotate_left
                              · intro w'
                                go_simp
                                with_reducible rfl
                              rotate_left
                              · simp only [Act.put, List.setIfInBounds_toArray, List.set_cons_zero, List.set_cons_succ, i64_w, i32_w]
                                rfl
                              refine take_ (i := 13) (N := some 37) (v := ?_) (a' := ?_) #[true, true, true, true, true, true, true, true, true, true, true, true, true, true, false, true, false, false, false, false, false, false, false, false, false, false] rfl rfl (take_ofW HT_.out HW_.out (by kernel_rfl)) (fun _ _ _ h => h) (Or.inl ⟨by rfl, ?_⟩) hHeld ?_ ?_
                              rotate_left
                              · rintro w' ⟨s0, s1, s2, s3, s4, s5⟩
                                go_simp
                                with_reducible rfl
                              rotate_left
                              · simp only [Act.put, List.setIfInBounds_toArray, List.set_cons_zero, List.set_cons_succ, i64_w, i32_w]
                                rfl
                              refine pure_ (i := 14) (N := some 38) (v := ?_) (a' := ?_) #[true, true, true, true, true, true, true, true, true, true, true, true, true, true, true, true, false, false, false, false, false, false, false, false, false, false] rfl rfl (any_of HT_.out (by kernel_rfl)) (fun _ _ _ h => h) (Or.inl ⟨by rfl, ?_⟩) ?_ ?_
                              rotate_left
                              · intro w'
                                go_simp
                                with_reducible rfl
                              rotate_left
                              · simp only [Act.put, List.setIfInBounds_toArray, List.set_cons_zero, List.set_cons_succ, i64_w, i32_w]
                                rfl
                              refine take_ (i := 16) (N := some 40) (v := ?_) (a' := ?_) #[true, true, true, true, true, true, true, true, true, true, true, true, true, true, true, true, true, false, false, false, false, false, false, false, false, false] rfl rfl (take_ofW HT_.out HW_.out (by kernel_rfl)) (fun _ _ _ h => h) (Or.inl ⟨by rfl, ?_⟩) hHeld ?_ ?_
                              rotate_left
                              · rintro w' ⟨s0, s1, s2, s3, s4, s5⟩
                                go_simp
                                with_reducible rfl
                              rotate_left
                              · simp only [Act.put, List.setIfInBounds_toArray, List.set_cons_zero, List.set_cons_succ, i64_w, i32_w]
                                rfl
                              refine pure_ (i := 17) (N := some 41) (v := ?_) (a' := ?_) #[true, true, true, true, true, true, true, true, true, true, true, true, true, true, true, true, true, true, false, false, false, false, false, false, false, false] rfl rfl (any_of HT_.out (by kernel_rfl)) (fun _ _ _ h => h) (Or.inl ⟨by rfl, ?_⟩) ?_ ?_
                              rotate_left
                              · intro w'
                                go_simp
                                with_reducible rfl
                              rotate_left
                              · simp only [Act.put, List.setIfInBounds_toArray, List.set_cons_zero, List.set_cons_succ, i64_w, i32_w]
                                rfl
                              refine pure_ (i := 18) (N := some 42) (v := ?_) (a' := ?_) #[true, true, true, true, true, true, true, true, true, true, true, true, true, true, true, true, true, true, true, false, false, false, false, false, false, false] rfl rfl (any_of HT_.out (by kernel_rfl)) (fun _ _ _ h => h) (Or.inl ⟨by rfl, ?_⟩) ?_ ?_
                              rotate_left
                              · intro w'
                                go_simp
                                with_reducible rfl
                              rotate_left
                              · simp only [Act.put, List.setIfInBounds_toArray, List.set_cons_zero, List.set_cons_succ, i64_w, i32_w]
                                rfl
                              refine last_ (i := 19) (N := none) #[true, true, true, true, true, true, true, true, true, true, true, true, true, true, true, true, true, true, true, true, false, false, false, false, false, false] rfl rfl (one_of HT_.out (by kernel_rfl)) (by decide) (fun K hK => ?_)
                              have hs43 : w42.cell? ⟨gb268, 0, none⟩ = some (.int .i64 ((rd_T39 l0 x6_1).f0)) := (blk_cell BK268.out 0).trans rfl
                              have hfs43 := blk_frozen BK268.out 0
                              refine skip_ (w1 := ?_) (by rfl) rfl ?_ ?_
                              rotate_left
                              · go_simp
                                rfl
                              refine hK.out _ _ ?_
                              clear hK K
                              refine pure_ (i := 20) (N := some 43) (v := ?_) (a' := ?_) #[true, true, true, true, true, true, true, true, true, true, true, true, true, true, true, true, true, true, true, true, true, false, false, false, false, false] rfl rfl (any_of HT_.out (by kernel_rfl)) (fun _ _ _ h => h) (Or.inl ⟨by rfl, ?_⟩) ?_ ?_
                              rotate_left
                              · intro w'
                                go_simp
                                with_reducible rfl
                              rotate_left
                              · simp only [Act.put, List.setIfInBounds_toArray, List.set_cons_zero, List.set_cons_succ, i64_w, i32_w]
                                rfl
                              refine last_ (i := 21) (N := none) #[true, true, true, true, true, true, true, true, true, true, true, true, true, true, true, true, true, true, true, true, true, true, false, false, false, false] rfl rfl (one_of HT_.out (by kernel_rfl)) (by decide) (fun K hK => ?_)
                              have hs44 : w42.cell? ⟨gb268, 1, none⟩ = some (.int .i64 ((rd_T39 l0 x6_1).f1)) := (blk_cell BK268.out 1).trans rfl
                              have hfs44 := blk_frozen BK268.out 1
                              refine skip_ (w1 := ?_) (by rfl) rfl ?_ ?_
                              rotate_left
                              · go_simp
                                rfl
                              refine hK.out _ _ ?_
                              clear hK K
                              refine pure_ (i := 22) (N := some 44) (v := ?_) (a' := ?_) #[true, true, true, true, true, true, true, true, true, true, true, true, true, true, true, true, true, true, true, true, true, true, true, false, false, false] rfl rfl (any_of HT_.out (by kernel_rfl)) (fun _ _ _ h => h) (Or.inl ⟨by rfl, ?_⟩) ?_ ?_
                              rotate_left
                              · intro w'
                                go_simp
                                with_reducible rfl
                              rotate_left
                              · simp only [Act.put, List.setIfInBounds_toArray, List.set_cons_zero, List.set_cons_succ, i64_w, i32_w]
                                rfl
                              refine last_ (i := 23) (N := none) #[true, true, true, true, true, true, true, true, true, true, true, true, true, true, true, true, true, true, true, true, true, true, true, true, false, false] rfl rfl (one_of HT_.out (by kernel_rfl)) (by decide) (fun K hK => ?_)
                              have hs45 : w42.cell? ⟨gb268, 3, none⟩ = some (.int .i64 ((rd_T39 l0 x6_1).f3)) := (blk_cell BK268.out 3).trans rfl
                              have hfs45 := blk_frozen BK268.out 3
                              refine skip_ (w1 := ?_) (by rfl) rfl ?_ ?_
                              rotate_left
                              · go_simp
                                rfl
                              refine hK.out _ _ ?_
                              clear hK K
                              refine pure_ (i := 24) (N := some 45) (v := ?_) (a' := ?_) #[true, true, true, true, true, true, true, true, true, true, true, true, true, true, true, true, true, true, true, true, true, true, true, true, true, false] rfl rfl (any_of HT_.out (by kernel_rfl)) (fun _ _ _ h => h) (Or.inl ⟨by rfl, ?_⟩) ?_ ?_
                              rotate_left
                              · intro w'
                                go_simp
                                with_reducible rfl
                              rotate_left
                              · simp only [Act.put, List.setIfInBounds_toArray, List.set_cons_zero, List.set_cons_succ, i64_w, i32_w]
                                rfl
                              refine last_ (i := 25) (N := none) #[true, true, true, true, true, true, true, true, true, true, true, true, true, true, true, true, true, true, true, true, true, true, true, true, true, true] rfl rfl (one_of HT_.out (by kernel_rfl)) (by decide) (fun K hK => ?_)
                              have hs46 : w42.cell? ⟨gb268, 4, none⟩ = some (.int .i64 ((rd_T39 l0 x6_1).f4)) := (blk_cell BK268.out 4).trans rfl
                              have hfs46 := blk_frozen BK268.out 4
                              refine skip_ (w1 := ?_) (by rfl) rfl ?_ ?_
                              rotate_left
                              · go_simp
                                rfl
                              refine hK.out _ _ ?_
                              clear hK K
                              refine done_ (done_of HT_.out (by kernel_rfl)) ?_
                              try go_wp2
                              have n0_ : Aside0 (Kd.R k39 39 ((((w42.setCell ⟨gb268, 0, none⟩ (.int .i64 (wrap64 (Int.tmod (IntKind.u64.wrap (((rd_T39 l0 x6_1).f0))) x8_7)))).setCell ⟨gb268, 1, none⟩ (.int .i64 (wrap64 (Int.tmod (IntKind.u64.wrap (((rd_T39 l0 x6_1).f1))) x8_7)))).setCell ⟨gb268, 3, none⟩ (.int .i64 (Go.bits .and .i64 ((rd_T39 l0 x6_1).f3) 3))).setCell ⟨gb268, 4, none⟩ (.int .i64 (Go.bits .and .i64 ((rd_T39 l0 x6_1).f4) 3))) w.heap.size (fun k_ => k_ ≠ gb268) u5 x5_1) := ⟨by (with_reducible repeat (first | apply Kd.R_alloc | apply Kd.R_drewN | apply Kd.R_drew)); exact Kd.R_mono (Kd.R_far (p := ⟨gb268, 4, none⟩) (Kd.R_far (p := ⟨gb268, 3, none⟩) (Kd.R_far (p := ⟨gb268, 1, none⟩) (Kd.R_far (p := ⟨gb268, 0, none⟩) (Kd.R_mono HO_5.out (fun k_ hk => (⟨hk, hk⟩ : _ ∧ k_ ≠ gb268))) (fun _ hk => hk.2) (.int .i64 (wrap64 (Int.tmod (IntKind.u64.wrap (((rd_T39 l0 x6_1).f0))) x8_7)))) (fun _ hk => hk.2) (.int .i64 (wrap64 (Int.tmod (IntKind.u64.wrap (((rd_T39 l0 x6_1).f1))) x8_7)))) (fun _ hk => hk.2) (.int .i64 (Go.bits .and .i64 ((rd_T39 l0 x6_1).f3) 3))) (fun _ hk => hk.2) (.int .i64 (Go.bits .and .i64 ((rd_T39 l0 x6_1).f4) 3))) (fun _ hk => hk.1)⟩
                              have n1_ : Aside0 (((((w42.setCell ⟨gb268, 0, none⟩ (.int .i64 (wrap64 (Int.tmod (IntKind.u64.wrap (((rd_T39 l0 x6_1).f0))) x8_7)))).setCell ⟨gb268, 1, none⟩ (.int .i64 (wrap64 (Int.tmod (IntKind.u64.wrap (((rd_T39 l0 x6_1).f1))) x8_7)))).setCell ⟨gb268, 3, none⟩ (.int .i64 (Go.bits .and .i64 ((rd_T39 l0 x6_1).f3) 3))).setCell ⟨gb268, 4, none⟩ (.int .i64 (Go.bits .and .i64 ((rd_T39 l0 x6_1).f4) 3))).heap[gb268]? = some (.cells #[.int .i64 (wrap64 (Int.tmod (IntKind.u64.wrap (((rd_T39 l0 x6_1).f0))) x8_7)), .int .i64 (wrap64 (Int.tmod (IntKind.u64.wrap (((rd_T39 l0 x6_1).f1))) x8_7)), .int .i64 ((rd_T39 l0 x6_1).f2), .int .i64 (Go.bits .and .i64 ((rd_T39 l0 x6_1).f3) 3), .int .i64 (Go.bits .and .i64 ((rd_T39 l0 x6_1).f4) 3), .int .i64 ((rd_T39 l0 x6_1).f5)] 39 (0, 0))) := ⟨by (with_reducible repeat (first | refine blk_drewN ?_ _ | refine blk_drew ?_ | refine blk_alloc ?_ _)); refine blk_put (cs := #[.int .i64 (wrap64 (Int.tmod (IntKind.u64.wrap (((rd_T39 l0 x6_1).f0))) x8_7)), .int .i64 (wrap64 (Int.tmod (IntKind.u64.wrap (((rd_T39 l0 x6_1).f1))) x8_7)), .int .i64 ((rd_T39 l0 x6_1).f2), .int .i64 (Go.bits .and .i64 ((rd_T39 l0 x6_1).f3) 3), .int .i64 ((rd_T39 l0 x6_1).f4), .int .i64 ((rd_T39 l0 x6_1).f5)]) ?_ 4 _ rfl; (with_reducible repeat (first | refine blk_drewN ?_ _ | refine blk_drew ?_ | refine blk_alloc ?_ _)); refine blk_put (cs := #[.int .i64 (wrap64 (Int.tmod (IntKind.u64.wrap (((rd_T39 l0 x6_1).f0))) x8_7)), .int .i64 (wrap64 (Int.tmod (IntKind.u64.wrap (((rd_T39 l0 x6_1).f1))) x8_7)), .int .i64 ((rd_T39 l0 x6_1).f2), .int .i64 ((rd_T39 l0 x6_1).f3), .int .i64 ((rd_T39 l0 x6_1).f4), .int .i64 ((rd_T39 l0 x6_1).f5)]) ?_ 3 _ rfl; (with_reducible repeat (first | refine blk_drewN ?_ _ | refine blk_drew ?_ | refine blk_alloc ?_ _)); refine blk_put (cs := #[.int .i64 (wrap64 (Int.tmod (IntKind.u64.wrap (((rd_T39 l0 x6_1).f0))) x8_7)), .int .i64 ((rd_T39 l0 x6_1).f1), .int .i64 ((rd_T39 l0 x6_1).f2), .int .i64 ((rd_T39 l0 x6_1).f3), .int .i64 ((rd_T39 l0 x6_1).f4), .int .i64 ((rd_T39 l0 x6_1).f5)]) ?_ 1 _ rfl; (with_reducible repeat (first | refine blk_drewN ?_ _ | refine blk_drew ?_ | refine blk_alloc ?_ _)); refine blk_put (cs := #[.int .i64 ((rd_T39 l0 x6_1).f0), .int .i64 ((rd_T39 l0 x6_1).f1), .int .i64 ((rd_T39 l0 x6_1).f2), .int .i64 ((rd_T39 l0 x6_1).f3), .int .i64 ((rd_T39 l0 x6_1).f4), .int .i64 ((rd_T39 l0 x6_1).f5)]) ?_ 0 _ rfl; (with_reducible repeat (first | refine blk_drewN ?_ _ | refine blk_drew ?_ | refine blk_alloc ?_ _)); exact BK268.out⟩
                              have n2_ : Aside0 (Below w.heap.size w ((((w42.setCell ⟨gb268, 0, none⟩ (.int .i64 (wrap64 (Int.tmod (IntKind.u64.wrap (((rd_T39 l0 x6_1).f0))) x8_7)))).setCell ⟨gb268, 1, none⟩ (.int .i64 (wrap64 (Int.tmod (IntKind.u64.wrap (((rd_T39 l0 x6_1).f1))) x8_7)))).setCell ⟨gb268, 3, none⟩ (.int .i64 (Go.bits .and .i64 ((rd_T39 l0 x6_1).f3) 3))).setCell ⟨gb268, 4, none⟩ (.int .i64 (Go.bits .and .i64 ((rd_T39 l0 x6_1).f4) 3)))) := ⟨by repeat (first | (with_reducible first | exact HB.out | apply below_alloc | apply pw_below_drewN | apply below_drew1 | refine below_set ?_ GE268.out) | exact HB.out)⟩
                              (try clear HO_5)
                              (try clear BK268)
                              (try clear HB)
                              generalize ((((w42.setCell ⟨gb268, 0, none⟩ (.int .i64 (wrap64 (Int.tmod (IntKind.u64.wrap (((rd_T39 l0 x6_1).f0))) x8_7)))).setCell ⟨gb268, 1, none⟩ (.int .i64 (wrap64 (Int.tmod (IntKind.u64.wrap (((rd_T39 l0 x6_1).f1))) x8_7)))).setCell ⟨gb268, 3, none⟩ (.int .i64 (Go.bits .and .i64 ((rd_T39 l0 x6_1).f3) 3))).setCell ⟨gb268, 4, none⟩ (.int .i64 (Go.bits .and .i64 ((rd_T39 l0 x6_1).f4) 3))) = w47 at n0_ n1_ n2_ ⊢
                              have HO_5 := n0_
                              have BK268 := n1_
                              have HB := n2_
                              clear n0_ n1_ n2_
                              have n0_ := Aside0.mk (Kd.R_drew HO_5.out)
                              have n1_ := Aside0.mk (blk_drew BK268.out)
                              have n2_ := Aside0.mk (below_drew1 HB.out)
                              clear HO_5
                              clear BK268
                              clear HB
                              have HO_5 := n0_
                              have BK268 := n1_
                              have HB := n2_
                              clear n0_ n1_ n2_
                              refine start_ (n := 16) (S := fun w' => w'.cell? ⟨gb268, 0, none⟩ = some (.int .i64 (wrap64 (Int.tmod (IntKind.u64.wrap (((rd_T39 l0 x6_1).f0))) x8_7))) ∧ w'.cell? ⟨gb268, 1, none⟩ = some (.int .i64 (wrap64 (Int.tmod (IntKind.u64.wrap (((rd_T39 l0 x6_1).f1))) x8_7))) ∧ w'.cell? ⟨gb268, 2, none⟩ = some (.int .i64 ((rd_T39 l0 x6_1).f2)) ∧ w'.cell? ⟨gb268, 3, none⟩ = some (.int .i64 (Go.bits .and .i64 ((rd_T39 l0 x6_1).f3) 3)) ∧ w'.cell? ⟨gb268, 4, none⟩ = some (.int .i64 (Go.bits .and .i64 ((rd_T39 l0 x6_1).f4) 3)) ∧ w'.cell? ⟨gb268, 5, none⟩ = some (.int .i64 ((rd_T39 l0 x6_1).f5))) (ds := [13, 15]) #[false, false, false, false, false, false, false, false, false, false, false, false, false, false, false, false] (by kernel_rfl) rfl rfl ⟨(blk_cell BK268.out 0).trans rfl, (blk_cell BK268.out 1).trans rfl, (blk_cell BK268.out 2).trans rfl, (blk_cell BK268.out 3).trans rfl, (blk_cell BK268.out 4).trans rfl, (blk_cell BK268.out 5).trans rfl⟩ (fun hHeld => ?_); refine with_tabW quoinlaw18_Tame.tab10 quoinlaw18_Tame.bits10 (fun HT_ HW_ => ?_)
                              generalize w47.drew = w48 at HO_5 BK268 HB hHeld ⊢
                              refine pure_ (i := 0) (N := some 46) (v := ?_) (a' := ?_) #[true, false, false, false, false, false, false, false, false, false, false, false, false, false, false, false] rfl rfl (any_of HT_.out (by kernel_rfl)) (fun _ _ _ h => h) (Or.inl ⟨by rfl, ?_⟩) ?_ ?_
                              rotate_left
                              · intro w'
                                go_simp
                                with_reducible rfl
                              rotate_left
                              · simp only [Act.put, List.setIfInBounds_toArray, List.set_cons_zero, List.set_cons_succ, i64_w, i32_w]
                                rfl
                              refine pure_ (i := 3) (N := some 49) (v := ?_) (a' := ?_) #[true, false, false, true, false, false, false, false, false, false, false, false, false, false, false, false] rfl rfl (any_of HT_.out (by kernel_rfl)) (fun _ _ _ h => h) (Or.inl ⟨by rfl, ?_⟩) ?_ ?_
                              rotate_left
                              · intro w'
                                go_simp
                                with_reducible rfl
                              rotate_left
                              · simp only [Act.put, List.setIfInBounds_toArray, List.set_cons_zero, List.set_cons_succ, i64_w, i32_w]
                                rfl
                              refine pure_ (i := 6) (N := some 52) (v := ?_) (a' := ?_) #[true, false, false, true, false, false, true, false, false, false, false, false, false, false, false, false] rfl rfl (any_of HT_.out (by kernel_rfl)) (fun _ _ _ h => h) (Or.inl ⟨by rfl, ?_⟩) ?_ ?_
                              rotate_left
                              · intro w'
                                go_simp
                                with_reducible rfl
                              rotate_left
                              · simp only [Act.put, List.setIfInBounds_toArray, List.set_cons_zero, List.set_cons_succ, i64_w, i32_w]
                                rfl
                              refine pure_ (i := 8) (N := some 54) (v := ?_) (a' := ?_) #[true, false, false, true, false, false, true, false, true, false, false, false, false, false, false, false] rfl rfl (any_of HT_.out (by kernel_rfl)) (fun _ _ _ h => h) (Or.inl ⟨by rfl, ?_⟩) ?_ ?_
                              rotate_left
                              · intro w'
                                go_simp
                                with_reducible rfl
                              rotate_left
                              · simp only [Act.put, List.setIfInBounds_toArray, List.set_cons_zero, List.set_cons_succ, i64_w, i32_w]
                                rfl
                              refine pure_ (i := 9) (N := some 55) (v := ?_) (a' := ?_) #[true, false, false, true, false, false, true, false, true, true, false, false, false, false, false, false] rfl rfl (any_of HT_.out (by kernel_rfl)) (fun _ _ _ h => h) (Or.inl ⟨by rfl, ?_⟩) ?_ ?_
                              rotate_left
                              · intro w'
                                go_simp
                                with_reducible rfl
                              rotate_left
                              · simp only [Act.put, List.setIfInBounds_toArray, List.set_cons_zero, List.set_cons_succ, i64_w, i32_w]
                                rfl
                              refine pure_ (i := 10) (N := some 56) (v := ?_) (a' := ?_) #[true, false, false, true, false, false, true, false, true, true, true, false, false, false, false, false] rfl rfl (any_of HT_.out (by kernel_rfl)) (fun _ _ _ h => h) (Or.inl ⟨by rfl, ?_⟩) ?_ ?_
                              rotate_left
                              · intro w'
                                go_simp
                                with_reducible rfl
                              rotate_left
                              · simp only [Act.put, List.setIfInBounds_toArray, List.set_cons_zero, List.set_cons_succ, i64_w, i32_w]
                                rfl
                              refine take_ (i := 1) (N := some 47) (v := ?_) (a' := ?_) #[true, true, false, true, false, false, true, false, true, true, true, false, false, false, false, false] rfl rfl (take_ofW HT_.out HW_.out (by kernel_rfl)) (fun _ _ _ h => h) (Or.inl ⟨by rfl, ?_⟩) hHeld ?_ ?_
                              rotate_left
                              · rintro w' ⟨s0, s1, s2, s3, s4, s5⟩
                                go_simp
                                with_reducible rfl
                              rotate_left
                              · simp only [Act.put, List.setIfInBounds_toArray, List.set_cons_zero, List.set_cons_succ, i64_w, i32_w]
                                rfl
                              refine pure_ (i := 2) (N := some 48) (v := ?_) (a' := ?_) #[true, true, true, true, false, false, true, false, true, true, true, false, false, false, false, false] rfl rfl (any_of HT_.out (by kernel_rfl)) (fun _ _ _ h => h) (Or.inl ⟨by rfl, ?_⟩) ?_ ?_
                              rotate_left
                              · intro w'
                                go_simp
                                with_reducible rfl
                              rotate_left
                              · simp only [Act.put, List.setIfInBounds_toArray, List.set_cons_zero, List.set_cons_succ, i64_w, i32_w]
                                rfl
                              refine pure_ (i := 4) (N := some 50) (v := ?_) (a' := ?_) #[true, true, true, true, true, false, true, false, true, true, true, false, false, false, false, false] rfl rfl (any_of HT_.out (by kernel_rfl)) (fun _ _ _ h => h) (Or.inl ⟨by rfl, ?_⟩) ?_ ?_
                              rotate_left
                              · intro w'
                                go_simp
                                with_reducible rfl
                              rotate_left
                              · simp only [Act.put, List.setIfInBounds_toArray, List.set_cons_zero, List.set_cons_succ, i64_w, i32_w]
                                rfl
                              refine pure_ (i := 5) (N := some 51) (v := ?_) (a' := ?_) #[true, true, true, true, true, true, true, false, true, true, true, false, false, false, false, false] rfl rfl (any_of HT_.out (by kernel_rfl)) (fun _ _ _ h => h) (Or.inl ⟨by rfl, ?_⟩) ?_ ?_
                              rotate_left
                              · intro w'
                                go_simp
                                with_reducible rfl
                              rotate_left
                              · simp only [Act.put, List.setIfInBounds_toArray, List.set_cons_zero, List.set_cons_succ, i64_w, i32_w]
                                rfl
                              refine take_ (i := 7) (N := some 53) (v := ?_) (a' := ?_) #[true, true, true, true, true, true, true, true, true, true, true, false, false, false, false, false] rfl rfl (take_ofW HT_.out HW_.out (by kernel_rfl)) (fun _ _ _ h => h) (Or.inl ⟨by rfl, ?_⟩) hHeld ?_ ?_
                              rotate_left
                              · rintro w' ⟨s0, s1, s2, s3, s4, s5⟩
                                go_simp
                                with_reducible rfl
                              rotate_left
                              · simp only [Act.put, List.setIfInBounds_toArray, List.set_cons_zero, List.set_cons_succ, i64_w, i32_w]
                                rfl
                              refine pure_ (i := 11) (N := some 57) (v := ?_) (a' := ?_) #[true, true, true, true, true, true, true, true, true, true, true, true, false, false, false, false] rfl rfl (any_of HT_.out (by kernel_rfl)) (fun _ _ _ h => h) (Or.inl ⟨by rfl, ?_⟩) ?_ ?_
                              rotate_left
                              · intro w'
                                go_simp
                                with_reducible rfl
                              rotate_left
                              · simp only [Act.put, List.setIfInBounds_toArray, List.set_cons_zero, List.set_cons_succ, i64_w, i32_w]
                                rfl
                              refine pure_ (i := 12) (N := some 58) (v := ?_) (a' := ?_) #[true, true, true, true, true, true, true, true, true, true, true, true, true, false, false, false] rfl rfl (any_of HT_.out (by kernel_rfl)) (fun _ _ _ h => h) (Or.inl ⟨by rfl, ?_⟩) ?_ ?_
                              rotate_left
                              · intro w'
                                go_simp
                                with_reducible rfl
                              rotate_left
                              · simp only [Act.put, List.setIfInBounds_toArray, List.set_cons_zero, List.set_cons_succ, i64_w, i32_w]
                                rfl
                              refine last_ (i := 13) (N := none) #[true, true, true, true, true, true, true, true, true, true, true, true, true, true, false, false] rfl rfl (one_of HT_.out (by kernel_rfl)) (by decide) (fun K hK => ?_)
                              have hs49 : w48.cell? ⟨gb268, 2, none⟩ = some (.int .i64 ((rd_T39 l0 x6_1).f2)) := (blk_cell BK268.out 2).trans rfl
                              have hfs49 := blk_frozen BK268.out 2
                              refine skip_ (w1 := ?_) (by rfl) rfl ?_ ?_
                              rotate_left
                              · go_simp
                                rfl
                              refine hK.out _ _ ?_
                              clear hK K
                              refine pure_ (i := 14) (N := some 59) (v := ?_) (a' := ?_) #[true, true, true, true, true, true, true, true, true, true, true, true, true, true, true, false] rfl rfl (any_of HT_.out (by kernel_rfl)) (fun _ _ _ h => h) (Or.inl ⟨by rfl, ?_⟩) ?_ ?_
                              rotate_left
                              · intro w'
                                go_simp
                                with_reducible rfl
                              rotate_left
                              · simp only [Act.put, List.setIfInBounds_toArray, List.set_cons_zero, List.set_cons_succ, i64_w, i32_w]
                                rfl
                              refine last_ (i := 15) (N := none) #[true, true, true, true, true, true, true, true, true, true, true, true, true, true, true, true] rfl rfl (one_of HT_.out (by kernel_rfl)) (by decide) (fun K hK => ?_)
                              have hs50 : w48.cell? ⟨gb268, 5, none⟩ = some (.int .i64 ((rd_T39 l0 x6_1).f5)) := (blk_cell BK268.out 5).trans rfl
                              have hfs50 := blk_frozen BK268.out 5
                              refine skip_ (w1 := ?_) (by rfl) rfl ?_ ?_
                              rotate_left
                              · go_simp
                                rfl
                              refine hK.out _ _ ?_
                              clear hK K
                              refine done_ (done_of HT_.out (by kernel_rfl)) ?_
                              have hcz51_0 : w48.cell? ⟨gb268, 0, none⟩ = some (.int .i64 (wrap64 (Int.tmod (IntKind.u64.wrap (((rd_T39 l0 x6_1).f0))) x8_7))) := (blk_cell BK268.out 0).trans rfl
                              have hcz51_1 : w48.cell? ⟨gb268, 1, none⟩ = some (.int .i64 (wrap64 (Int.tmod (IntKind.u64.wrap (((rd_T39 l0 x6_1).f1))) x8_7))) := (blk_cell BK268.out 1).trans rfl
                              have hcz51_2 : w48.cell? ⟨gb268, 2, none⟩ = some (.int .i64 ((rd_T39 l0 x6_1).f2)) := (blk_cell BK268.out 2).trans rfl
                              have hcz51_3 : w48.cell? ⟨gb268, 3, none⟩ = some (.int .i64 (Go.bits .and .i64 ((rd_T39 l0 x6_1).f3) 3)) := (blk_cell BK268.out 3).trans rfl
                              have hcz51_4 : w48.cell? ⟨gb268, 4, none⟩ = some (.int .i64 (Go.bits .and .i64 ((rd_T39 l0 x6_1).f4) 3)) := (blk_cell BK268.out 4).trans rfl
                              have hcz51_5 : w48.cell? ⟨gb268, 5, none⟩ = some (.int .i64 ((rd_T39 l0 x6_1).f5)) := (blk_cell BK268.out 5).trans rfl
                              have hfz51_0 := blk_frozen BK268.out 0
                              have hfz51_1 := blk_frozen BK268.out 1
                              have hfz51_2 := blk_frozen BK268.out 2
                              have hfz51_3 := blk_frozen BK268.out 3
                              have hfz51_4 := blk_frozen BK268.out 4
                              have hfz51_5 := blk_frozen BK268.out 5
                              try go_wp2_with (first | ((with_reducible refine gate_builtin (b := .append) (xs := #[.tmp 70, .tmp 72]) rfl ?_); at_builtin; refine Kd.R_append k39 (w0 := w) w.heap.size rfl (.tmp 70) (.tmp 72) 36 39 (.agg #[(.int .i64 0), (.int .i64 0), (.int .i64 0), (.int .i64 0), (.int .i64 0), (.int .i64 0)]) 48 rfl Try.underlying36 info39 rfl (by decide) (by omega) u5 x5_1 (⟨wrap64 (Int.tmod (IntKind.u64.wrap (((rd_T39 l0 x6_1).f0))) x8_7), wrap64 (Int.tmod (IntKind.u64.wrap (((rd_T39 l0 x6_1).f1))) x8_7), (-1), Go.bits .and .i64 ((rd_T39 l0 x6_1).f3) 3, Go.bits .and .i64 ((rd_T39 l0 x6_1).f4) 3, Int.tmod ((rd_T39 l0 x6_1).f5) (wrap64 (IntKind.u64.wrap (Int.tdiv x8_7 4)))⟩ : S39) [.int .i64 (wrap64 (Int.tmod (IntKind.u64.wrap (((rd_T39 l0 x6_1).f0))) x8_7)), .int .i64 (wrap64 (Int.tmod (IntKind.u64.wrap (((rd_T39 l0 x6_1).f1))) x8_7)), .int .i64 (-1), .int .i64 (Go.bits .and .i64 ((rd_T39 l0 x6_1).f3) 3), .int .i64 (Go.bits .and .i64 ((rd_T39 l0 x6_1).f4) 3), .int .i64 (Int.tmod ((rd_T39 l0 x6_1).f5) (wrap64 (IntKind.u64.wrap (Int.tdiv x8_7 4))))] (fun k_ => k_ ≠ gb268) (fun _ => False) rfl (by first | (go_simp; done) | (go_simp; rfl)) ?aP (fun _ hk => hk.elim) ?aF ?aO ?aB ?aS ?aL ?_; (case aP => exact k39_mkM _ _ _ (⟨wrap64 (Int.tmod (IntKind.u64.wrap (((rd_T39 l0 x6_1).f0))) x8_7), wrap64 (Int.tmod (IntKind.u64.wrap (((rd_T39 l0 x6_1).f1))) x8_7), (-1), Go.bits .and .i64 ((rd_T39 l0 x6_1).f3) 3, Go.bits .and .i64 ((rd_T39 l0 x6_1).f4) 3, Int.tmod ((rd_T39 l0 x6_1).f5) (wrap64 (IntKind.u64.wrap (Int.tdiv x8_7 4)))⟩ : S39)); (case aB => exact (by repeat (first | (with_reducible first | exact HB.out | apply below_alloc | apply pw_below_drewN | apply below_drew1 | refine below_set ?_ GE268.out) | exact HB.out))); (case aF => exact (fun k_ hk => Kd.freshB (g := gb268) (o := .cells #[.int .i64 (wrap64 (Int.tmod (IntKind.u64.wrap (((rd_T39 l0 x6_1).f0))) x8_7)), .int .i64 (wrap64 (Int.tmod (IntKind.u64.wrap (((rd_T39 l0 x6_1).f1))) x8_7)), .int .i64 (-1), .int .i64 (Go.bits .and .i64 ((rd_T39 l0 x6_1).f3) 3), .int .i64 (Go.bits .and .i64 ((rd_T39 l0 x6_1).f4) 3), .int .i64 (Int.tmod ((rd_T39 l0 x6_1).f5) (wrap64 (IntKind.u64.wrap (Int.tdiv x8_7 4))))] 39 (0, 0)) (by (with_reducible repeat (first | refine blk_drewN ?_ _ | refine blk_drew ?_ | refine blk_alloc ?_ _)); refine blk_put (cs := #[.int .i64 (wrap64 (Int.tmod (IntKind.u64.wrap (((rd_T39 l0 x6_1).f0))) x8_7)), .int .i64 (wrap64 (Int.tmod (IntKind.u64.wrap (((rd_T39 l0 x6_1).f1))) x8_7)), .int .i64 (wrap64 (Int.tmod (IntKind.u64.wrap (((rd_T39 l0 x6_1).f2))) x8_7)), .int .i64 (Go.bits .and .i64 ((rd_T39 l0 x6_1).f3) 3), .int .i64 (Go.bits .and .i64 ((rd_T39 l0 x6_1).f4) 3), .int .i64 (Int.tmod ((rd_T39 l0 x6_1).f5) (wrap64 (IntKind.u64.wrap (Int.tdiv x8_7 4))))]) ?_ 2 _ rfl; (with_reducible repeat (first | refine blk_drewN ?_ _ | refine blk_drew ?_ | refine blk_alloc ?_ _)); refine blk_put (cs := #[.int .i64 (wrap64 (Int.tmod (IntKind.u64.wrap (((rd_T39 l0 x6_1).f0))) x8_7)), .int .i64 (wrap64 (Int.tmod (IntKind.u64.wrap (((rd_T39 l0 x6_1).f1))) x8_7)), .int .i64 (wrap64 (Int.tmod (IntKind.u64.wrap (((rd_T39 l0 x6_1).f2))) x8_7)), .int .i64 (Go.bits .and .i64 ((rd_T39 l0 x6_1).f3) 3), .int .i64 (Go.bits .and .i64 ((rd_T39 l0 x6_1).f4) 3), .int .i64 ((rd_T39 l0 x6_1).f5)]) ?_ 5 _ rfl; (with_reducible repeat (first | refine blk_drewN ?_ _ | refine blk_drew ?_ | refine blk_alloc ?_ _)); refine blk_put (cs := #[.int .i64 (wrap64 (Int.tmod (IntKind.u64.wrap (((rd_T39 l0 x6_1).f0))) x8_7)), .int .i64 (wrap64 (Int.tmod (IntKind.u64.wrap (((rd_T39 l0 x6_1).f1))) x8_7)), .int .i64 ((rd_T39 l0 x6_1).f2), .int .i64 (Go.bits .and .i64 ((rd_T39 l0 x6_1).f3) 3), .int .i64 (Go.bits .and .i64 ((rd_T39 l0 x6_1).f4) 3), .int .i64 ((rd_T39 l0 x6_1).f5)]) ?_ 2 _ rfl; (with_reducible repeat (first | refine blk_drewN ?_ _ | refine blk_drew ?_ | refine blk_alloc ?_ _)); exact BK268.out) k_ hk)); (case aO => exact (by (with_reducible repeat (first | apply Kd.R_alloc | apply Kd.R_drewN | apply Kd.R_drew)); exact Kd.R_mono (Kd.R_far (p := ⟨gb268, 2, none⟩) (Kd.R_far (p := ⟨gb268, 5, none⟩) (Kd.R_far (p := ⟨gb268, 2, none⟩) (Kd.R_mono HO_5.out (fun k_ hk => (⟨hk, hk⟩ : _ ∧ k_ ≠ gb268))) (fun _ hk => hk.2) (.int .i64 (wrap64 (Int.tmod (IntKind.u64.wrap (((rd_T39 l0 x6_1).f2))) x8_7)))) (fun _ hk => hk.2) (.int .i64 (Int.tmod ((rd_T39 l0 x6_1).f5) (wrap64 (IntKind.u64.wrap (Int.tdiv x8_7 4)))))) (fun _ hk => hk.2) (.int .i64 (-1))) (fun _ hk => hk.1))); (case aS => exact (below_size (by repeat (first | (with_reducible first | exact HB.out | apply below_alloc | apply pw_below_drewN | apply below_drew1 | refine below_set ?_ GE268.out) | exact HB.out)))); (case aL => have := LMc41.out; omega); intro v276 w52 ho hb hg hat; rw [← Ny275.out] at ho; have n0_ := Aside0.mk (blk_grown (g := gb268) (o := .cells #[.int .i64 (wrap64 (Int.tmod (IntKind.u64.wrap (((rd_T39 l0 x6_1).f0))) x8_7)), .int .i64 (wrap64 (Int.tmod (IntKind.u64.wrap (((rd_T39 l0 x6_1).f1))) x8_7)), .int .i64 (-1), .int .i64 (Go.bits .and .i64 ((rd_T39 l0 x6_1).f3) 3), .int .i64 (Go.bits .and .i64 ((rd_T39 l0 x6_1).f4) 3), .int .i64 (Int.tmod ((rd_T39 l0 x6_1).f5) (wrap64 (IntKind.u64.wrap (Int.tdiv x8_7 4))))] 39 (0, 0)) (by (with_reducible repeat (first | refine blk_drewN ?_ _ | refine blk_drew ?_ | refine blk_alloc ?_ _)); refine blk_put (cs := #[.int .i64 (wrap64 (Int.tmod (IntKind.u64.wrap (((rd_T39 l0 x6_1).f0))) x8_7)), .int .i64 (wrap64 (Int.tmod (IntKind.u64.wrap (((rd_T39 l0 x6_1).f1))) x8_7)), .int .i64 (wrap64 (Int.tmod (IntKind.u64.wrap (((rd_T39 l0 x6_1).f2))) x8_7)), .int .i64 (Go.bits .and .i64 ((rd_T39 l0 x6_1).f3) 3), .int .i64 (Go.bits .and .i64 ((rd_T39 l0 x6_1).f4) 3), .int .i64 (Int.tmod ((rd_T39 l0 x6_1).f5) (wrap64 (IntKind.u64.wrap (Int.tdiv x8_7 4))))]) ?_ 2 _ rfl; (with_reducible repeat (first | refine blk_drewN ?_ _ | refine blk_drew ?_ | refine blk_alloc ?_ _)); refine blk_put (cs := #[.int .i64 (wrap64 (Int.tmod (IntKind.u64.wrap (((rd_T39 l0 x6_1).f0))) x8_7)), .int .i64 (wrap64 (Int.tmod (IntKind.u64.wrap (((rd_T39 l0 x6_1).f1))) x8_7)), .int .i64 (wrap64 (Int.tmod (IntKind.u64.wrap (((rd_T39 l0 x6_1).f2))) x8_7)), .int .i64 (Go.bits .and .i64 ((rd_T39 l0 x6_1).f3) 3), .int .i64 (Go.bits .and .i64 ((rd_T39 l0 x6_1).f4) 3), .int .i64 ((rd_T39 l0 x6_1).f5)]) ?_ 5 _ rfl; (with_reducible repeat (first | refine blk_drewN ?_ _ | refine blk_drew ?_ | refine blk_alloc ?_ _)); refine blk_put (cs := #[.int .i64 (wrap64 (Int.tmod (IntKind.u64.wrap (((rd_T39 l0 x6_1).f0))) x8_7)), .int .i64 (wrap64 (Int.tmod (IntKind.u64.wrap (((rd_T39 l0 x6_1).f1))) x8_7)), .int .i64 ((rd_T39 l0 x6_1).f2), .int .i64 (Go.bits .and .i64 ((rd_T39 l0 x6_1).f3) 3), .int .i64 (Go.bits .and .i64 ((rd_T39 l0 x6_1).f4) 3), .int .i64 ((rd_T39 l0 x6_1).f5)]) ?_ 2 _ rfl; (with_reducible repeat (first | refine blk_drewN ?_ _ | refine blk_drew ?_ | refine blk_alloc ?_ _)); exact BK268.out) hg (Kd.R_away HO_5.out (fun _ hk => hk))); have n1_ := Aside0.mk (hb); have n2_ := Aside0.mk (ho); clear BK268; clear HB; clear HO_5; have BK268 := n0_; have HB := n1_; have HO277 := n2_; clear n0_ n1_ n2_; clear ho hb hg hat))
                              go_roundg kj7
                              case measure => have := HK1.out; have := HJ2.out; have := HJ7.out; omega
                              case rel => exact ⟨(y275), (wrap64 (x6_1 + 1)), (by first | rfl | (simp; done) | (simp [*]; done)), H', ⟨by have := HK1.out; have := HJ2.out; have := HJ7.out; omega⟩, ⟨by (with_reducible repeat (first | apply Kd.R_alloc | apply Kd.R_drewN | apply Kd.R_drew)); exact Kd.R_mono HO277.out (fun _ hk => trivial)⟩, ⟨by repeat (first | (with_reducible first | exact HB.out | apply below_alloc | apply pw_below_drewN | apply below_drew1 | refine below_set ?_ GE268.out) | exact HB.out)⟩⟩
                            · rw [if_neg c41] at H
                              exact absurd H (by simp)
                          · rw [if_neg c40] at H
                            have c40b0 : decide (0 < (Go.bits .and .i64 (wrap64 (Int.tmod (IntKind.u64.wrap (((rd_T39 l0 x6_1).f2))) x8_7)) 3)) = false := decide_eq_false c40
                            clear c40
                            by_cases c53 : x5_1.length < 2932031007402
                            · rw [if_pos c53] at H
                              have LMc53 := Aside0.mk c53
                              clear c53
                              obtain ⟨y278, hy278⟩ : ∃ y_ : List (S39), y_ = (x5_1 ++ [(⟨wrap64 (Int.tmod (IntKind.u64.wrap (((rd_T39 l0 x6_1).f0))) x8_7), wrap64 (Int.tmod (IntKind.u64.wrap (((rd_T39 l0 x6_1).f1))) x8_7), wrap64 (Int.tmod (IntKind.u64.wrap (((rd_T39 l0 x6_1).f2))) x8_7), Go.bits .and .i64 ((rd_T39 l0 x6_1).f3) 3, Go.bits .and .i64 ((rd_T39 l0 x6_1).f4) 3, Int.tmod ((rd_T39 l0 x6_1).f5) (wrap64 (IntKind.u64.wrap (Int.tdiv x8_7 4)))⟩ : S39)]) := ⟨_, rfl⟩
                              replace H : (quoinlaw18_Tame.l0 kj7 l0 a1 y278 (wrap64 (x6_1 + 1))) = some r := by first | (rw [hy278]; with_reducible exact H) | (have H2_ := (Option.bind_some _ _).symm.trans H; rw [hy278]; with_reducible exact H2_) | (have H2_ := (Option.bind_some _ _).symm.trans H; with_reducible exact H2_) | with_reducible exact H | (rw [hy278]; exact H) | exact H
                              have Ny278 := Aside0.mk hy278
                              clear hy278
                              have H' := Aside0.mk H
                              clear H
                              try go_wp2
                              have n0_ := Aside0.mk (Kd.R_drew HO_5.out)
                              have n1_ := Aside0.mk (blk_drew BK268.out)
                              have n2_ := Aside0.mk (below_drew1 HB.out)
                              clear HO_5
                              clear BK268
                              clear HB
                              have HO_5 := n0_
                              have BK268 := n1_
                              have HB := n2_
                              clear n0_ n1_ n2_
                              refine start_ (n := 26) (S := fun w' => w'.cell? ⟨gb268, 0, none⟩ = some (.int .i64 ((rd_T39 l0 x6_1).f0)) ∧ w'.cell? ⟨gb268, 1, none⟩ = some (.int .i64 ((rd_T39 l0 x6_1).f1)) ∧ w'.cell? ⟨gb268, 2, none⟩ = some (.int .i64 ((rd_T39 l0 x6_1).f2)) ∧ w'.cell? ⟨gb268, 3, none⟩ = some (.int .i64 ((rd_T39 l0 x6_1).f3)) ∧ w'.cell? ⟨gb268, 4, none⟩ = some (.int .i64 ((rd_T39 l0 x6_1).f4)) ∧ w'.cell? ⟨gb268, 5, none⟩ = some (.int .i64 ((rd_T39 l0 x6_1).f5))) (ds := [19, 21, 23, 25]) #[false, false, false, false, false, false, false, false, false, false, false, false, false, false, false, false, false, false, false, false, false, false, false, false, false, false] (by kernel_rfl) rfl rfl ⟨(blk_cell BK268.out 0).trans rfl, (blk_cell BK268.out 1).trans rfl, (blk_cell BK268.out 2).trans rfl, (blk_cell BK268.out 3).trans rfl, (blk_cell BK268.out 4).trans rfl, (blk_cell BK268.out 5).trans rfl⟩ (fun hHeld => ?_); refine with_tabW quoinlaw18_Tame.tab9 quoinlaw18_Tame.bits9 (fun HT_ HW_ => ?_)
                              generalize wc.drew = w54 at HO_5 BK268 HB hHeld ⊢
                              refine pure_ (i := 0) (N := some 24) (v := ?_) (a' := ?_) #[true, false, false, false, false, false, false, false, false, false, false, false, false, false, false, false, false, false, false, false, false, false, false, false, false, false] rfl rfl (any_of HT_.out (by kernel_rfl)) (fun _ _ _ h => h) (Or.inl ⟨by rfl, ?_⟩) ?_ ?_
                              rotate_left
                              · intro w'
                                go_simp
                                with_reducible rfl
                              rotate_left
                              · simp only [Act.put, List.setIfInBounds_toArray, List.set_cons_zero, List.set_cons_succ, i64_w, i32_w]
                                rfl
                              refine pure_ (i := 3) (N := some 27) (v := ?_) (a' := ?_) #[true, false, false, true, false, false, false, false, false, false, false, false, false, false, false, false, false, false, false, false, false, false, false, false, false, false] rfl rfl (any_of HT_.out (by kernel_rfl)) (fun _ _ _ h => h) (Or.inl ⟨by rfl, ?_⟩) ?_ ?_
                              rotate_left
                              · intro w'
                                go_simp
                                with_reducible rfl
                              rotate_left
                              · simp only [Act.put, List.setIfInBounds_toArray, List.set_cons_zero, List.set_cons_succ, i64_w, i32_w]
                                rfl
                              refine pure_ (i := 6) (N := some 30) (v := ?_) (a' := ?_) #[true, false, false, true, false, false, true, false, false, false, false, false, false, false, false, false, false, false, false, false, false, false, false, false, false, false] rfl rfl (any_of HT_.out (by kernel_rfl)) (fun _ _ _ h => h) (Or.inl ⟨by rfl, ?_⟩) ?_ ?_
                              rotate_left
                              · intro w'
                                go_simp
                                with_reducible rfl
                              rotate_left
                              · simp only [Act.put, List.setIfInBounds_toArray, List.set_cons_zero, List.set_cons_succ, i64_w, i32_w]
                                rfl
                              refine pure_ (i := 9) (N := some 33) (v := ?_) (a' := ?_) #[true, false, false, true, false, false, true, false, false, true, false, false, false, false, false, false, false, false, false, false, false, false, false, false, false, false] rfl rfl (any_of HT_.out (by kernel_rfl)) (fun _ _ _ h => h) (Or.inl ⟨by rfl, ?_⟩) ?_ ?_
                              rotate_left
                              · intro w'
                                go_simp
                                with_reducible rfl
                              rotate_left
                              · simp only [Act.put, List.setIfInBounds_toArray, List.set_cons_zero, List.set_cons_succ, i64_w, i32_w]
                                rfl
                              refine pure_ (i := 12) (N := some 36) (v := ?_) (a' := ?_) #[true, false, false, true, false, false, true, false, false, true, false, false, true, false, false, false, false, false, false, false, false, false, false, false, false, false] rfl rfl (any_of HT_.out (by kernel_rfl)) (fun _ _ _ h => h) (Or.inl ⟨by rfl, ?_⟩) ?_ ?_
                              rotate_left
                              · intro w'
                                go_simp
                                with_reducible rfl
                              rotate_left
                              · simp only [Act.put, List.setIfInBounds_toArray, List.set_cons_zero, List.set_cons_succ, i64_w, i32_w]
                                rfl
                              refine pure_ (i := 15) (N := some 39) (v := ?_) (a' := ?_) #[true, false, false, true, false, false, true, false, false, true, false, false, true, false, false, true, false, false, false, false, false, false, false, false, false, false] rfl rfl (any_of HT_.out (by kernel_rfl)) (fun _ _ _ h => h) (Or.inl ⟨by rfl, ?_⟩) ?_ ?_
                              rotate_left
                              · intro w'
                                go_simp
                                with_reducible rfl
                              rotate_left
                              · simp only [Act.put, List.setIfInBounds_toArray, List.set_cons_zero, List.set_cons_succ, i64_w, i32_w]
                                rfl
                              refine take_ (i := 1) (N := some 25) (v := ?_) (a' := ?_) #[true, true, false, true, false, false, true, false, false, true, false, false, true, false, false, true, false, false, false, false, false, false, false, false, false, false] rfl rfl (take_ofW HT_.out HW_.out (by kernel_rfl)) (fun _ _ _ h => h) (Or.inl ⟨by rfl, ?_⟩) hHeld ?_ ?_
                              rotate_left
                              · rintro w' ⟨s0, s1, s2, s3, s4, s5⟩
                                go_simp
                                with_reducible rfl
                              rotate_left
                              · simp only [Act.put, List.setIfInBounds_toArray, List.set_cons_zero, List.set_cons_succ, i64_w, i32_w]
                                rfl
                              refine pure_ (i := 2) (N := some 26) (v := ?_) (a' := ?_) #[true, true, true, true, false, false, true, false, false, true, false, false, true, false, false, true, false, false, false, false, false, false, false, false, false, false] rfl rfl (any_of HT_.out (by kernel_rfl)) (fun _ _ _ h => h) (Or.inl ⟨by rfl, ?_⟩) ?_ ?_
                              rotate_left
                              · intro w'
                                go_simp
                                with_reducible rfl
                              rotate_left
                              · simp only [Act.put, List.setIfInBounds_toArray, List.set_cons_zero, List.set_cons_succ, i64_w, i32_w]
                                rfl
                              refine pure_ (i := 4) (N := some 28) (v := ?_) (a' := ?_) #[true, true, true, true, true, false, true, false, false, true, false, false, true, false, false, true, false, false, false, false, false, false, false, false, false, false] rfl rfl (any_of HT_.out (by kernel_rfl)) (fun _ _ _ h => h) (Or.inl ⟨by rfl, ?_⟩) ?_ ?_
                              rotate_left
                              · intro w'
                                go_simp
                                with_reducible rfl
                              rotate_left
                              · simp only [Act.put, List.setIfInBounds_toArray, List.set_cons_zero, List.set_cons_succ, i64_w, i32_w]
                                rfl
                              refine pure_ (i := 5) (N := some 29) (v := ?_) (a' := ?_) #[true, true, true, true, true, true, true, false, false, true, false, false, true, false, false, true, false, false, false, false, false, false, false, false, false, false] rfl rfl (any_of HT_.out (by kernel_rfl)) (fun _ _ _ h => h) (Or.inl ⟨by rfl, ?_⟩) ?_ ?_
                              rotate_left
                              · intro w'
                                go_simp
                                with_reducible rfl
                              rotate_left
                              · simp only [Act.put, List.setIfInBounds_toArray, List.set_cons_zero, List.set_cons_succ, i64_w, i32_w]
                                rfl
                              refine take_ (i := 7) (N := some 31) (v := ?_) (a' := ?_) #[true, true, true, true, true, true, true, true, false, true, false, false, true, false, false, true, false, false, false, false, false, false, false, false, false, false] rfl rfl (take_ofW HT_.out HW_.out (by kernel_rfl)) (fun _ _ _ h => h) (Or.inl ⟨by rfl, ?_⟩) hHeld ?_ ?_
                              rotate_left
                              · rintro w' ⟨s0, s1, s2, s3, s4, s5⟩
                                go_simp
                                with_reducible rfl
                              rotate_left
                              · simp only [Act.put, List.setIfInBounds_toArray, List.set_cons_zero, List.set_cons_succ, i64_w, i32_w]
                                rfl
                              refine pure_ (i := 8) (N := some 32) (v := ?_) (a' := ?_) #[true, true, true, true, true, true, true, true, true, true, false, false, true, false, false, true, false, false, false, false, false, false, false, false, false, false] rfl rfl (any_of HT_.out (by kernel_rfl)) (fun _ _ _ h => h) (Or.inl ⟨by rfl, ?_⟩) ?_ ?_
                              rotate_left
                              · intro w'
                                go_simp
                                with_reducible rfl
                              rotate_left
                              · simp only [Act.put, List.setIfInBounds_toArray, List.set_cons_zero, List.set_cons_succ, i64_w, i32_w]
                                rfl
                              refine pure_ (i := 10) (N := some 34) (v := ?_) (a' := ?_) #[true, true, true, true, true, true, true, true, true, true, true, false, true, false, false, true, false, false, false, false, false, false, false, false, false, false] rfl rfl (any_of HT_.out (by kernel_rfl)) (fun _ _ _ h => h) (Or.inl ⟨by rfl, ?_⟩) ?_ ?_
                              rotate_left
                              · intro w'
                                go_simp
                                with_reducible rfl
                              rotate_left
                              · simp only [Act.put, List.setIfInBounds_toArray, List.set_cons_zero, List.set_cons_succ, i64_w, i32_w]
                                rfl
                              refine pure_ (i := 11) (N := some 35) (v := ?_) (a' := ?_) #[true, true, true, true, true, true, true, true, true, true, true, true, true, false, false, true, false, false, false, false, false, false, false, false, false, false] rfl rfl (any_of HT_.out (by kernel_rfl)) (fun _ _ _ h => h) (Or.inl ⟨by rfl, ?_⟩) ?_ ?_
                              rotate_left
                              · intro w'
                                go_simp
                                with_reducible rfl
                              rotate_left
                              · simp only [Act.put, List.setIfInBounds_toArray, List.set_cons_zero, List.set_cons_succ, i64_w, i32_w]
                                rfl
                              refine take_ (i := 13) (N := some 37) (v := ?_) (a' := ?_) #[true, true, true, true, true, true, true, true, true, true, true, true, true, true, false, true, false, false, false, false, false, false, false, false, false, false] rfl rfl (take_ofW HT_.out HW_.out (by kernel_rfl)) (fun _ _ _ h => h) (Or.inl ⟨by rfl, ?_⟩) hHeld ?_ ?_
                              rotate_left
                              · rintro w' ⟨s0, s1, s2, s3, s4, s5⟩
                                go_simp
                                with_reducible rfl
                              rotate_left
                              · simp only [Act.put, List.setIfInBounds_toArray, List.set_cons_zero, List.set_cons_succ, i64_w, i32_w]
                                rfl
                              refine pure_ (i := 14) (N := some 38) (v := ?_) (a' := ?_) #[true, true, true, true, true, true, true, true, true, true, true, true, true, true, true, true, false, false, false, false, false, false, false, false, false, false] rfl rfl (any_of HT_.out (by kernel_rfl)) (fun _ _ _ h => h) (Or.inl ⟨by rfl, ?_⟩) ?_ ?_
                              rotate_left
                              · intro w'
                                go_simp
                                with_reducible rfl
                              rotate_left
                              · simp only [Act.put, List.setIfInBounds_toArray, List.set_cons_zero, List.set_cons_succ, i64_w, i32_w]
                                rfl
                              refine take_ (i := 16) (N := some 40) (v := ?_) (a' := ?_) #[true, true, true, true, true, true, true, true, true, true, true, true, true, true, true, true, true, false, false, false, false, false, false, false, false, false] rfl rfl (take_ofW HT_.out HW_.out (by kernel_rfl)) (fun _ _ _ h => h) (Or.inl ⟨by rfl, ?_⟩) hHeld ?_ ?_
                              rotate_left
                              · rintro w' ⟨s0, s1, s2, s3, s4, s5⟩
                                go_simp
                                with_reducible rfl
                              rotate_left
                              · simp only [Act.put, List.setIfInBounds_toArray, List.set_cons_zero, List.set_cons_succ, i64_w, i32_w]
                                rfl
                              refine pure_ (i := 17) (N := some 41) (v := ?_) (a' := ?_) #[true, true, true, true, true, true, true, true, true, true, true, true, true, true, true, true, true, true, false, false, false, false, false, false, false, false] rfl rfl (any_of HT_.out (by kernel_rfl)) (fun _ _ _ h => h) (Or.inl ⟨by rfl, ?_⟩) ?_ ?_
                              rotate_left
                              · intro w'
                                go_simp
                                with_reducible rfl
                              rotate_left
                              · simp only [Act.put, List.setIfInBounds_toArray, List.set_cons_zero, List.set_cons_succ, i64_w, i32_w]
                                rfl
                              refine pure_ (i := 18) (N := some 42) (v := ?_) (a' := ?_) #[true, true, true, true, true, true, true, true, true, true, true, true, true, true, true, true, true, true, true, false, false, false, false, false, false, false] rfl rfl (any_of HT_.out (by kernel_rfl)) (fun _ _ _ h => h) (Or.inl ⟨by rfl, ?_⟩) ?_ ?_
                              rotate_left
                              · intro w'
                                go_simp
                                with_reducible rfl
                              rotate_left
                              · simp only [Act.put, List.setIfInBounds_toArray, List.set_cons_zero, List.set_cons_succ, i64_w, i32_w]
                                rfl
                              refine last_ (i := 19) (N := none) #[true, true, true, true, true, true, true, true, true, true, true, true, true, true, true, true, true, true, true, true, false, false, false, false, false, false] rfl rfl (one_of HT_.out (by kernel_rfl)) (by decide) (fun K hK => ?_)
                              have hs55 : w54.cell? ⟨gb268, 0, none⟩ = some (.int .i64 ((rd_T39 l0 x6_1).f0)) := (blk_cell BK268.out 0).trans rfl
                              have hfs55 := blk_frozen BK268.out 0
                              refine skip_ (w1 := ?_) (by rfl) rfl ?_ ?_
                              rotate_left
                              · go_simp
                                rfl
                              refine hK.out _ _ ?_
                              clear hK K
                              refine pure_ (i := 20) (N := some 43) (v := ?_) (a' := ?_) #[true, true, true, true, true, true, true, true, true, true, true, true, true, true, true, true, true, true, true, true, true, false, false, false, false, false] rfl rfl (any_of HT_.out (by kernel_rfl)) (fun _ _ _ h => h) (Or.inl ⟨by rfl, ?_⟩) ?_ ?_
                              rotate_left
                              · intro w'
                                go_simp
                                with_reducible rfl
                              rotate_left
                              · simp only [Act.put, List.setIfInBounds_toArray, List.set_cons_zero, List.set_cons_succ, i64_w, i32_w]
                                rfl
                              refine last_ (i := 21) (N := none) #[true, true, true, true, true, true, true, true, true, true, true, true, true, true, true, true, true, true, true, true, true, true, false, false, false, false] rfl rfl (one_of HT_.out (by kernel_rfl)) (by decide) (fun K hK => ?_)
                              have hs56 : w54.cell? ⟨gb268, 1, none⟩ = some (.int .i64 ((rd_T39 l0 x6_1).f1)) := (blk_cell BK268.out 1).trans rfl
                              have hfs56 := blk_frozen BK268.out 1
                              refine skip_ (w1 := ?_) (by rfl) rfl ?_ ?_
                              rotate_left
                              · go_simp
                                rfl
                              refine hK.out _ _ ?_
                              clear hK K
                              refine pure_ (i := 22) (N := some 44) (v := ?_) (a' := ?_) #[true, true, true, true, true, true, true, true, true, true, true, true, true, true, true, true, true, true, true, true, true, true, true, false, false, false] rfl rfl (any_of HT_.out (by kernel_rfl)) (fun _ _ _ h => h) (Or.inl ⟨by rfl, ?_⟩) ?_ ?_
                              rotate_left
                              · intro w'
                                go_simp
                                with_reducible rfl
                              rotate_left
                              · simp only [Act.put, List.setIfInBounds_toArray, List.set_cons_zero, List.set_cons_succ, i64_w, i32_w]
                                rfl
                              refine last_ (i := 23) (N := none) #[true, true, true, true, true, true, true, true, true, true, true, true, true, true, true, true, true, true, true, true, true, true, true, true, false, false] rfl rfl (one_of HT_.out (by kernel_rfl)) (by decide) (fun K hK => ?_)
                              have hs57 : w54.cell? ⟨gb268, 3, none⟩ = some (.int .i64 ((rd_T39 l0 x6_1).f3)) := (blk_cell BK268.out 3).trans rfl
                              have hfs57 := blk_frozen BK268.out 3
                              refine skip_ (w1 := ?_) (by rfl) rfl ?_ ?_
                              rotate_left
                              · go_simp
                                rfl
                              refine hK.out _ _ ?_
                              clear hK K
                              refine pure_ (i := 24) (N := some 45) (v := ?_) (a' := ?_) #[true, true, true, true, true, true, true, true, true, true, true, true, true, true, true, true, true, true, true, true, true, true, true, true, true, false] rfl rfl (any_of HT_.out (by kernel_rfl)) (fun _ _ _ h => h) (Or.inl ⟨by rfl, ?_⟩) ?_ ?_
                              rotate_left
                              · intro w'
                                go_simp
                                with_reducible rfl
                              rotate_left
                              · simp only [Act.put, List.setIfInBounds_toArray, List.set_cons_zero, List.set_cons_succ, i64_w, i32_w]
                                rfl
                              refine last_ (i := 25) (N := none) #[true, true, true, true, true, true, true, true, true, true, true, true, true, true, true, true, true, true, true, true, true, true, true, true, true, true] rfl rfl (one_of HT_.out (by kernel_rfl)) (by decide) (fun K hK => ?_)
                              have hs58 : w54.cell? ⟨gb268, 4, none⟩ = some (.int .i64 ((rd_T39 l0 x6_1).f4)) := (blk_cell BK268.out 4).trans rfl
                              have hfs58 := blk_frozen BK268.out 4
                              refine skip_ (w1 := ?_) (by rfl) rfl ?_ ?_
                              rotate_left
                              · go_simp
                                rfl
                              refine hK.out _ _ ?_
                              clear hK K
                              refine done_ (done_of HT_.out (by kernel_rfl)) ?_
                              try go_wp2
                              have n0_ : Aside0 (Kd.R k39 39 ((((w54.setCell ⟨gb268, 0, none⟩ (.int .i64 (wrap64 (Int.tmod (IntKind.u64.wrap (((rd_T39 l0 x6_1).f0))) x8_7)))).setCell ⟨gb268, 1, none⟩ (.int .i64 (wrap64 (Int.tmod (IntKind.u64.wrap (((rd_T39 l0 x6_1).f1))) x8_7)))).setCell ⟨gb268, 3, none⟩ (.int .i64 (Go.bits .and .i64 ((rd_T39 l0 x6_1).f3) 3))).setCell ⟨gb268, 4, none⟩ (.int .i64 (Go.bits .and .i64 ((rd_T39 l0 x6_1).f4) 3))) w.heap.size (fun k_ => k_ ≠ gb268) u5 x5_1) := ⟨by (with_reducible repeat (first | apply Kd.R_alloc | apply Kd.R_drewN | apply Kd.R_drew)); exact Kd.R_mono (Kd.R_far (p := ⟨gb268, 4, none⟩) (Kd.R_far (p := ⟨gb268, 3, none⟩) (Kd.R_far (p := ⟨gb268, 1, none⟩) (Kd.R_far (p := ⟨gb268, 0, none⟩) (Kd.R_mono HO_5.out (fun k_ hk => (⟨hk, hk⟩ : _ ∧ k_ ≠ gb268))) (fun _ hk => hk.2) (.int .i64 (wrap64 (Int.tmod (IntKind.u64.wrap (((rd_T39 l0 x6_1).f0))) x8_7)))) (fun _ hk => hk.2) (.int .i64 (wrap64 (Int.tmod (IntKind.u64.wrap (((rd_T39 l0 x6_1).f1))) x8_7)))) (fun _ hk => hk.2) (.int .i64 (Go.bits .and .i64 ((rd_T39 l0 x6_1).f3) 3))) (fun _ hk => hk.2) (.int .i64 (Go.bits .and .i64 ((rd_T39 l0 x6_1).f4) 3))) (fun _ hk => hk.1)⟩
                              have n1_ : Aside0 (((((w54.setCell ⟨gb268, 0, none⟩ (.int .i64 (wrap64 (Int.tmod (IntKind.u64.wrap (((rd_T39 l0 x6_1).f0))) x8_7)))).setCell ⟨gb268, 1, none⟩ (.int .i64 (wrap64 (Int.tmod (IntKind.u64.wrap (((rd_T39 l0 x6_1).f1))) x8_7)))).setCell ⟨gb268, 3, none⟩ (.int .i64 (Go.bits .and .i64 ((rd_T39 l0 x6_1).f3) 3))).setCell ⟨gb268, 4, none⟩ (.int .i64 (Go.bits .and .i64 ((rd_T39 l0 x6_1).f4) 3))).heap[gb268]? = some (.cells #[.int .i64 (wrap64 (Int.tmod (IntKind.u64.wrap (((rd_T39 l0 x6_1).f0))) x8_7)), .int .i64 (wrap64 (Int.tmod (IntKind.u64.wrap (((rd_T39 l0 x6_1).f1))) x8_7)), .int .i64 ((rd_T39 l0 x6_1).f2), .int .i64 (Go.bits .and .i64 ((rd_T39 l0 x6_1).f3) 3), .int .i64 (Go.bits .and .i64 ((rd_T39 l0 x6_1).f4) 3), .int .i64 ((rd_T39 l0 x6_1).f5)] 39 (0, 0))) := ⟨by (with_reducible repeat (first | refine blk_drewN ?_ _ | refine blk_drew ?_ | refine blk_alloc ?_ _)); refine blk_put (cs := #[.int .i64 (wrap64 (Int.tmod (IntKind.u64.wrap (((rd_T39 l0 x6_1).f0))) x8_7)), .int .i64 (wrap64 (Int.tmod (IntKind.u64.wrap (((rd_T39 l0 x6_1).f1))) x8_7)), .int .i64 ((rd_T39 l0 x6_1).f2), .int .i64 (Go.bits .and .i64 ((rd_T39 l0 x6_1).f3) 3), .int .i64 ((rd_T39 l0 x6_1).f4), .int .i64 ((rd_T39 l0 x6_1).f5)]) ?_ 4 _ rfl; (with_reducible repeat (first | refine blk_drewN ?_ _ | refine blk_drew ?_ | refine blk_alloc ?_ _)); refine blk_put (cs := #[.int .i64 (wrap64 (Int.tmod (IntKind.u64.wrap (((rd_T39 l0 x6_1).f0))) x8_7)), .int .i64 (wrap64 (Int.tmod (IntKind.u64.wrap (((rd_T39 l0 x6_1).f1))) x8_7)), .int .i64 ((rd_T39 l0 x6_1).f2), .int .i64 ((rd_T39 l0 x6_1).f3), .int .i64 ((rd_T39 l0 x6_1).f4), .int .i64 ((rd_T39 l0 x6_1).f5)]) ?_ 3 _ rfl; (with_reducible repeat (first | refine blk_drewN ?_ _ | refine blk_drew ?_ | refine blk_alloc ?_ _)); refine blk_put (cs := #[.int .i64 (wrap64 (Int.tmod (IntKind.u64.wrap (((rd_T39 l0 x6_1).f0))) x8_7)), .int .i64 ((rd_T39 l0 x6_1).f1), .int .i64 ((rd_T39 l0 x6_1).f2), .int .i64 ((rd_T39 l0 x6_1).f3), .int .i64 ((rd_T39 l0 x6_1).f4), .int .i64 ((rd_T39 l0 x6_1).f5)]) ?_ 1 _ rfl; (with_reducible repeat (first | refine blk_drewN ?_ _ | refine blk_drew ?_ | refine blk_alloc ?_ _)); refine blk_put (cs := #[.int .i64 ((rd_T39 l0 x6_1).f0), .int .i64 ((rd_T39 l0 x6_1).f1), .int .i64 ((rd_T39 l0 x6_1).f2), .int .i64 ((rd_T39 l0 x6_1).f3), .int .i64 ((rd_T39 l0 x6_1).f4), .int .i64 ((rd_T39 l0 x6_1).f5)]) ?_ 0 _ rfl; (with_reducible repeat (first | refine blk_drewN ?_ _ | refine blk_drew ?_ | refine blk_alloc ?_ _)); exact BK268.out⟩
                              have n2_ : Aside0 (Below w.heap.size w ((((w54.setCell ⟨gb268, 0, none⟩ (.int .i64 (wrap64 (Int.tmod (IntKind.u64.wrap (((rd_T39 l0 x6_1).f0))) x8_7)))).setCell ⟨gb268, 1, none⟩ (.int .i64 (wrap64 (Int.tmod (IntKind.u64.wrap (((rd_T39 l0 x6_1).f1))) x8_7)))).setCell ⟨gb268, 3, none⟩ (.int .i64 (Go.bits .and .i64 ((rd_T39 l0 x6_1).f3) 3))).setCell ⟨gb268, 4, none⟩ (.int .i64 (Go.bits .and .i64 ((rd_T39 l0 x6_1).f4) 3)))) := ⟨by repeat (first | (with_reducible first | exact HB.out | apply below_alloc | apply pw_below_drewN | apply below_drew1 | refine below_set ?_ GE268.out) | exact HB.out)⟩
                              (try clear HO_5)
                              (try clear BK268)
                              (try clear HB)
                              generalize ((((w54.setCell ⟨gb268, 0, none⟩ (.int .i64 (wrap64 (Int.tmod (IntKind.u64.wrap (((rd_T39 l0 x6_1).f0))) x8_7)))).setCell ⟨gb268, 1, none⟩ (.int .i64 (wrap64 (Int.tmod (IntKind.u64.wrap (((rd_T39 l0 x6_1).f1))) x8_7)))).setCell ⟨gb268, 3, none⟩ (.int .i64 (Go.bits .and .i64 ((rd_T39 l0 x6_1).f3) 3))).setCell ⟨gb268, 4, none⟩ (.int .i64 (Go.bits .and .i64 ((rd_T39 l0 x6_1).f4) 3))) = w59 at n0_ n1_ n2_ ⊢
                              have HO_5 := n0_
                              have BK268 := n1_
                              have HB := n2_
                              clear n0_ n1_ n2_
                              have n0_ := Aside0.mk (Kd.R_drew HO_5.out)
                              have n1_ := Aside0.mk (blk_drew BK268.out)
                              have n2_ := Aside0.mk (below_drew1 HB.out)
                              clear HO_5
                              clear BK268
                              clear HB
                              have HO_5 := n0_
                              have BK268 := n1_
                              have HB := n2_
                              clear n0_ n1_ n2_
                              refine start_ (n := 16) (S := fun w' => w'.cell? ⟨gb268, 0, none⟩ = some (.int .i64 (wrap64 (Int.tmod (IntKind.u64.wrap (((rd_T39 l0 x6_1).f0))) x8_7))) ∧ w'.cell? ⟨gb268, 1, none⟩ = some (.int .i64 (wrap64 (Int.tmod (IntKind.u64.wrap (((rd_T39 l0 x6_1).f1))) x8_7))) ∧ w'.cell? ⟨gb268, 2, none⟩ = some (.int .i64 ((rd_T39 l0 x6_1).f2)) ∧ w'.cell? ⟨gb268, 3, none⟩ = some (.int .i64 (Go.bits .and .i64 ((rd_T39 l0 x6_1).f3) 3)) ∧ w'.cell? ⟨gb268, 4, none⟩ = some (.int .i64 (Go.bits .and .i64 ((rd_T39 l0 x6_1).f4) 3)) ∧ w'.cell? ⟨gb268, 5, none⟩ = some (.int .i64 ((rd_T39 l0 x6_1).f5))) (ds := [13, 15]) #[false, false, false, false, false, false, false, false, false, false, false, false, false, false, false, false] (by kernel_rfl) rfl rfl ⟨(blk_cell BK268.out 0).trans rfl, (blk_cell BK268.out 1).trans rfl, (blk_cell BK268.out 2).trans rfl, (blk_cell BK268.out 3).trans rfl, (blk_cell BK268.out 4).trans rfl, (blk_cell BK268.out 5).trans rfl⟩ (fun hHeld => ?_); refine with_tabW quoinlaw18_Tame.tab10 quoinlaw18_Tame.bits10 (fun HT_ HW_ => ?_)
                              generalize w59.drew = w60 at HO_5 BK268 HB hHeld ⊢
                              refine pure_ (i := 0) (N := some 46) (v := ?_) (a' := ?_) #[true, false, false, false, false, false, false, false, false, false, false, false, false, false, false, false] rfl rfl (any_of HT_.out (by kernel_rfl)) (fun _ _ _ h => h) (Or.inl ⟨by rfl, ?_⟩) ?_ ?_
                              rotate_left
                              · intro w'
                                go_simp
                                with_reducible rfl
                              rotate_left
                              · simp only [Act.put, List.setIfInBounds_toArray, List.set_cons_zero, List.set_cons_succ, i64_w, i32_w]
                                rfl
                              refine pure_ (i := 3) (N := some 49) (v := ?_) (a' := ?_) #[true, false, false, true, false, false, false, false, false, false, false, false, false, false, false, false] rfl rfl (any_of HT_.out (by kernel_rfl)) (fun _ _ _ h => h) (Or.inl ⟨by rfl, ?_⟩) ?_ ?_
                              rotate_left
                              · intro w'
                                go_simp
                                with_reducible rfl
                              rotate_left
                              · simp only [Act.put, List.setIfInBounds_toArray, List.set_cons_zero, List.set_cons_succ, i64_w, i32_w]
                                rfl
                              refine pure_ (i := 6) (N := some 52) (v := ?_) (a' := ?_) #[true, false, false, true, false, false, true, false, false, false, false, false, false, false, false, false] rfl rfl (any_of HT_.out (by kernel_rfl)) (fun _ _ _ h => h) (Or.inl ⟨by rfl, ?_⟩) ?_ ?_
                              rotate_left
                              · intro w'
                                go_simp
                                with_reducible rfl
                              rotate_left
                              · simp only [Act.put, List.setIfInBounds_toArray, List.set_cons_zero, List.set_cons_succ, i64_w, i32_w]
                                rfl
                              refine pure_ (i := 8) (N := some 54) (v := ?_) (a' := ?_) #[true, false, false, true, false, false, true, false, true, false, false, false, false, false, false, false] rfl rfl (any_of HT_.out (by kernel_rfl)) (fun _ _ _ h => h) (Or.inl ⟨by rfl, ?_⟩) ?_ ?_
                              rotate_left
                              · intro w'
                                go_simp
                                with_reducible rfl
                              rotate_left
                              · simp only [Act.put, List.setIfInBounds_toArray, List.set_cons_zero, List.set_cons_succ, i64_w, i32_w]
                                rfl
                              refine pure_ (i := 9) (N := some 55) (v := ?_) (a' := ?_) #[true, false, false, true, false, false, true, false, true, true, false, false, false, false, false, false] rfl rfl (any_of HT_.out (by kernel_rfl)) (fun _ _ _ h => h) (Or.inl ⟨by rfl, ?_⟩) ?_ ?_
                              rotate_left
                              · intro w'
                                go_simp
                                with_reducible rfl
                              rotate_left
                              · simp only [Act.put, List.setIfInBounds_toArray, List.set_cons_zero, List.set_cons_succ, i64_w, i32_w]
                                rfl
                              refine pure_ (i := 10) (N := some 56) (v := ?_) (a' := ?_) #[true, false, false, true, false, false, true, false, true, true, true, false, false, false, false, false] rfl rfl (any_of HT_.out (by kernel_rfl)) (fun _ _ _ h => h) (Or.inl ⟨by rfl, ?_⟩) ?_ ?_
                              rotate_left
                              · intro w'
                                go_simp
                                with_reducible rfl
                              rotate_left
                              · simp only [Act.put, List.setIfInBounds_toArray, List.set_cons_zero, List.set_cons_succ, i64_w, i32_w]
                                rfl
                              refine take_ (i := 1) (N := some 47) (v := ?_) (a' := ?_) #[true, true, false, true, false, false, true, false, true, true, true, false, false, false, false, false] rfl rfl (take_ofW HT_.out HW_.out (by kernel_rfl)) (fun _ _ _ h => h) (Or.inl ⟨by rfl, ?_⟩) hHeld ?_ ?_
                              rotate_left
                              · rintro w' ⟨s0, s1, s2, s3, s4, s5⟩
                                go_simp
                                with_reducible rfl
                              rotate_left
                              · simp only [Act.put, List.setIfInBounds_toArray, List.set_cons_zero, List.set_cons_succ, i64_w, i32_w]
                                rfl
                              refine pure_ (i := 2) (N := some 48) (v := ?_) (a' := ?_) #[true, true, true, true, false, false, true, false, true, true, true, false, false, false, false, false] rfl rfl (any_of HT_.out (by kernel_rfl)) (fun _ _ _ h => h) (Or.inl ⟨by rfl, ?_⟩) ?_ ?_
                              rotate_left
                              · intro w'
                                go_simp
                                with_reducible rfl
                              rotate_left
                              · simp only [Act.put, List.setIfInBounds_toArray, List.set_cons_zero, List.set_cons_succ, i64_w, i32_w]
                                rfl
                              refine pure_ (i := 4) (N := some 50) (v := ?_) (a' := ?_) #[true, true, true, true, true, false, true, false, true, true, true, false, false, false, false, false] rfl rfl (any_of HT_.out (by kernel_rfl)) (fun _ _ _ h => h) (Or.inl ⟨by rfl, ?_⟩) ?_ ?_
                              rotate_left
                              · intro w'
                                go_simp
                                with_reducible rfl
                              rotate_left
                              · simp only [Act.put, List.setIfInBounds_toArray, List.set_cons_zero, List.set_cons_succ, i64_w, i32_w]
                                rfl
                              refine pure_ (i := 5) (N := some 51) (v := ?_) (a' := ?_) #[true, true, true, true, true, true, true, false, true, true, true, false, false, false, false, false] rfl rfl (any_of HT_.out (by kernel_rfl)) (fun _ _ _ h => h) (Or.inl ⟨by rfl, ?_⟩) ?_ ?_
                              rotate_left
                              · intro w'
                                go_simp
                                with_reducible rfl
                              rotate_left
                              · simp only [Act.put, List.setIfInBounds_toArray, List.set_cons_zero, List.set_cons_succ, i64_w, i32_w]
                                rfl
                              refine take_ (i := 7) (N := some 53) (v := ?_) (a' := ?_) #[true, true, true, true, true, true, true, true, true, true, true, false, false, false, false, false] rfl rfl (take_ofW HT_.out HW_.out (by kernel_rfl)) (fun _ _ _ h => h) (Or.inl ⟨by rfl, ?_⟩) hHeld ?_ ?_
                              rotate_left
                              · rintro w' ⟨s0, s1, s2, s3, s4, s5⟩
                                go_simp
                                with_reducible rfl
                              rotate_left
                              · simp only [Act.put, List.setIfInBounds_toArray, List.set_cons_zero, List.set_cons_succ, i64_w, i32_w]
                                rfl
                              refine pure_ (i := 11) (N := some 57) (v := ?_) (a' := ?_) #[true, true, true, true, true, true, true, true, true, true, true, true, false, false, false, false] rfl rfl (any_of HT_.out (by kernel_rfl)) (fun _ _ _ h => h) (Or.inl ⟨by rfl, ?_⟩) ?_ ?_
                              rotate_left
                              · intro w'
                                go_simp
                                with_reducible rfl
                              rotate_left
                              · simp only [Act.put, List.setIfInBounds_toArray, List.set_cons_zero, List.set_cons_succ, i64_w, i32_w]
                                rfl
                              refine pure_ (i := 12) (N := some 58) (v := ?_) (a' := ?_) #[true, true, true, true, true, true, true, true, true, true, true, true, true, false, false, false] rfl rfl (any_of HT_.out (by kernel_rfl)) (fun _ _ _ h => h) (Or.inl ⟨by rfl, ?_⟩) ?_ ?_
                              rotate_left
                              · intro w'
                                go_simp
                                with_reducible rfl
                              rotate_left
                              · simp only [Act.put, List.setIfInBounds_toArray, List.set_cons_zero, List.set_cons_succ, i64_w, i32_w]
                                rfl
                              refine last_ (i := 13) (N := none) #[true, true, true, true, true, true, true, true, true, true, true, true, true, true, false, false] rfl rfl (one_of HT_.out (by kernel_rfl)) (by decide) (fun K hK => ?_)
                              have hs61 : w60.cell? ⟨gb268, 2, none⟩ = some (.int .i64 ((rd_T39 l0 x6_1).f2)) := (blk_cell BK268.out 2).trans rfl
                              have hfs61 := blk_frozen BK268.out 2
                              refine skip_ (w1 := ?_) (by rfl) rfl ?_ ?_
                              rotate_left
                              · go_simp
                                rfl
                              refine hK.out _ _ ?_
                              clear hK K
                              refine pure_ (i := 14) (N := some 59) (v := ?_) (a' := ?_) #[true, true, true, true, true, true, true, true, true, true, true, true, true, true, true, false] rfl rfl (any_of HT_.out (by kernel_rfl)) (fun _ _ _ h => h) (Or.inl ⟨by rfl, ?_⟩) ?_ ?_
                              rotate_left
                              · intro w'
                                go_simp
                                with_reducible rfl
                              rotate_left
                              · simp only [Act.put, List.setIfInBounds_toArray, List.set_cons_zero, List.set_cons_succ, i64_w, i32_w]
                                rfl
                              refine last_ (i := 15) (N := none) #[true, true, true, true, true, true, true, true, true, true, true, true, true, true, true, true] rfl rfl (one_of HT_.out (by kernel_rfl)) (by decide) (fun K hK => ?_)
                              have hs62 : w60.cell? ⟨gb268, 5, none⟩ = some (.int .i64 ((rd_T39 l0 x6_1).f5)) := (blk_cell BK268.out 5).trans rfl
                              have hfs62 := blk_frozen BK268.out 5
                              refine skip_ (w1 := ?_) (by rfl) rfl ?_ ?_
                              rotate_left
                              · go_simp
                                rfl
                              refine hK.out _ _ ?_
                              clear hK K
                              refine done_ (done_of HT_.out (by kernel_rfl)) ?_
                              have hcz63_0 : w60.cell? ⟨gb268, 0, none⟩ = some (.int .i64 (wrap64 (Int.tmod (IntKind.u64.wrap (((rd_T39 l0 x6_1).f0))) x8_7))) := (blk_cell BK268.out 0).trans rfl
                              have hcz63_1 : w60.cell? ⟨gb268, 1, none⟩ = some (.int .i64 (wrap64 (Int.tmod (IntKind.u64.wrap (((rd_T39 l0 x6_1).f1))) x8_7))) := (blk_cell BK268.out 1).trans rfl
                              have hcz63_2 : w60.cell? ⟨gb268, 2, none⟩ = some (.int .i64 ((rd_T39 l0 x6_1).f2)) := (blk_cell BK268.out 2).trans rfl
                              have hcz63_3 : w60.cell? ⟨gb268, 3, none⟩ = some (.int .i64 (Go.bits .and .i64 ((rd_T39 l0 x6_1).f3) 3)) := (blk_cell BK268.out 3).trans rfl
                              have hcz63_4 : w60.cell? ⟨gb268, 4, none⟩ = some (.int .i64 (Go.bits .and .i64 ((rd_T39 l0 x6_1).f4) 3)) := (blk_cell BK268.out 4).trans rfl
                              have hcz63_5 : w60.cell? ⟨gb268, 5, none⟩ = some (.int .i64 ((rd_T39 l0 x6_1).f5)) := (blk_cell BK268.out 5).trans rfl
                              have hfz63_0 := blk_frozen BK268.out 0
                              have hfz63_1 := blk_frozen BK268.out 1
                              have hfz63_2 := blk_frozen BK268.out 2
                              have hfz63_3 := blk_frozen BK268.out 3
                              have hfz63_4 := blk_frozen BK268.out 4
                              have hfz63_5 := blk_frozen BK268.out 5
                              try go_wp2_with (first | ((with_reducible refine gate_builtin (b := .append) (xs := #[.tmp 70, .tmp 72]) rfl ?_); at_builtin; refine Kd.R_append k39 (w0 := w) w.heap.size rfl (.tmp 70) (.tmp 72) 36 39 (.agg #[(.int .i64 0), (.int .i64 0), (.int .i64 0), (.int .i64 0), (.int .i64 0), (.int .i64 0)]) 48 rfl Try.underlying36 info39 rfl (by decide) (by omega) u5 x5_1 (⟨wrap64 (Int.tmod (IntKind.u64.wrap (((rd_T39 l0 x6_1).f0))) x8_7), wrap64 (Int.tmod (IntKind.u64.wrap (((rd_T39 l0 x6_1).f1))) x8_7), wrap64 (Int.tmod (IntKind.u64.wrap (((rd_T39 l0 x6_1).f2))) x8_7), Go.bits .and .i64 ((rd_T39 l0 x6_1).f3) 3, Go.bits .and .i64 ((rd_T39 l0 x6_1).f4) 3, Int.tmod ((rd_T39 l0 x6_1).f5) (wrap64 (IntKind.u64.wrap (Int.tdiv x8_7 4)))⟩ : S39) [.int .i64 (wrap64 (Int.tmod (IntKind.u64.wrap (((rd_T39 l0 x6_1).f0))) x8_7)), .int .i64 (wrap64 (Int.tmod (IntKind.u64.wrap (((rd_T39 l0 x6_1).f1))) x8_7)), .int .i64 (wrap64 (Int.tmod (IntKind.u64.wrap (((rd_T39 l0 x6_1).f2))) x8_7)), .int .i64 (Go.bits .and .i64 ((rd_T39 l0 x6_1).f3) 3), .int .i64 (Go.bits .and .i64 ((rd_T39 l0 x6_1).f4) 3), .int .i64 (Int.tmod ((rd_T39 l0 x6_1).f5) (wrap64 (IntKind.u64.wrap (Int.tdiv x8_7 4))))] (fun k_ => k_ ≠ gb268) (fun _ => False) rfl (by first | (go_simp; done) | (go_simp; rfl)) ?aP (fun _ hk => hk.elim) ?aF ?aO ?aB ?aS ?aL ?_; (case aP => exact k39_mkM _ _ _ (⟨wrap64 (Int.tmod (IntKind.u64.wrap (((rd_T39 l0 x6_1).f0))) x8_7), wrap64 (Int.tmod (IntKind.u64.wrap (((rd_T39 l0 x6_1).f1))) x8_7), wrap64 (Int.tmod (IntKind.u64.wrap (((rd_T39 l0 x6_1).f2))) x8_7), Go.bits .and .i64 ((rd_T39 l0 x6_1).f3) 3, Go.bits .and .i64 ((rd_T39 l0 x6_1).f4) 3, Int.tmod ((rd_T39 l0 x6_1).f5) (wrap64 (IntKind.u64.wrap (Int.tdiv x8_7 4)))⟩ : S39)); (case aB => exact (by repeat (first | (with_reducible first | exact HB.out | apply below_alloc | apply pw_below_drewN | apply below_drew1 | refine below_set ?_ GE268.out) | exact HB.out))); (case aF => exact (fun k_ hk => Kd.freshB (g := gb268) (o := .cells #[.int .i64 (wrap64 (Int.tmod (IntKind.u64.wrap (((rd_T39 l0 x6_1).f0))) x8_7)), .int .i64 (wrap64 (Int.tmod (IntKind.u64.wrap (((rd_T39 l0 x6_1).f1))) x8_7)), .int .i64 (wrap64 (Int.tmod (IntKind.u64.wrap (((rd_T39 l0 x6_1).f2))) x8_7)), .int .i64 (Go.bits .and .i64 ((rd_T39 l0 x6_1).f3) 3), .int .i64 (Go.bits .and .i64 ((rd_T39 l0 x6_1).f4) 3), .int .i64 (Int.tmod ((rd_T39 l0 x6_1).f5) (wrap64 (IntKind.u64.wrap (Int.tdiv x8_7 4))))] 39 (0, 0)) (by (with_reducible repeat (first | refine blk_drewN ?_ _ | refine blk_drew ?_ | refine blk_alloc ?_ _)); refine blk_put (cs := #[.int .i64 (wrap64 (Int.tmod (IntKind.u64.wrap (((rd_T39 l0 x6_1).f0))) x8_7)), .int .i64 (wrap64 (Int.tmod (IntKind.u64.wrap (((rd_T39 l0 x6_1).f1))) x8_7)), .int .i64 (wrap64 (Int.tmod (IntKind.u64.wrap (((rd_T39 l0 x6_1).f2))) x8_7)), .int .i64 (Go.bits .and .i64 ((rd_T39 l0 x6_1).f3) 3), .int .i64 (Go.bits .and .i64 ((rd_T39 l0 x6_1).f4) 3), .int .i64 ((rd_T39 l0 x6_1).f5)]) ?_ 5 _ rfl; (with_reducible repeat (first | refine blk_drewN ?_ _ | refine blk_drew ?_ | refine blk_alloc ?_ _)); refine blk_put (cs := #[.int .i64 (wrap64 (Int.tmod (IntKind.u64.wrap (((rd_T39 l0 x6_1).f0))) x8_7)), .int .i64 (wrap64 (Int.tmod (IntKind.u64.wrap (((rd_T39 l0 x6_1).f1))) x8_7)), .int .i64 ((rd_T39 l0 x6_1).f2), .int .i64 (Go.bits .and .i64 ((rd_T39 l0 x6_1).f3) 3), .int .i64 (Go.bits .and .i64 ((rd_T39 l0 x6_1).f4) 3), .int .i64 ((rd_T39 l0 x6_1).f5)]) ?_ 2 _ rfl; (with_reducible repeat (first | refine blk_drewN ?_ _ | refine blk_drew ?_ | refine blk_alloc ?_ _)); exact BK268.out) k_ hk)); (case aO => exact (by (with_reducible repeat (first | apply Kd.R_alloc | apply Kd.R_drewN | apply Kd.R_drew)); exact Kd.R_mono (Kd.R_far (p := ⟨gb268, 5, none⟩) (Kd.R_far (p := ⟨gb268, 2, none⟩) (Kd.R_mono HO_5.out (fun k_ hk => (⟨hk, hk⟩ : _ ∧ k_ ≠ gb268))) (fun _ hk => hk.2) (.int .i64 (wrap64 (Int.tmod (IntKind.u64.wrap (((rd_T39 l0 x6_1).f2))) x8_7)))) (fun _ hk => hk.2) (.int .i64 (Int.tmod ((rd_T39 l0 x6_1).f5) (wrap64 (IntKind.u64.wrap (Int.tdiv x8_7 4)))))) (fun _ hk => hk.1))); (case aS => exact (below_size (by repeat (first | (with_reducible first | exact HB.out | apply below_alloc | apply pw_below_drewN | apply below_drew1 | refine below_set ?_ GE268.out) | exact HB.out)))); (case aL => have := LMc53.out; omega); intro v279 w64 ho hb hg hat; rw [← Ny278.out] at ho; have n0_ := Aside0.mk (blk_grown (g := gb268) (o := .cells #[.int .i64 (wrap64 (Int.tmod (IntKind.u64.wrap (((rd_T39 l0 x6_1).f0))) x8_7)), .int .i64 (wrap64 (Int.tmod (IntKind.u64.wrap (((rd_T39 l0 x6_1).f1))) x8_7)), .int .i64 (wrap64 (Int.tmod (IntKind.u64.wrap (((rd_T39 l0 x6_1).f2))) x8_7)), .int .i64 (Go.bits .and .i64 ((rd_T39 l0 x6_1).f3) 3), .int .i64 (Go.bits .and .i64 ((rd_T39 l0 x6_1).f4) 3), .int .i64 (Int.tmod ((rd_T39 l0 x6_1).f5) (wrap64 (IntKind.u64.wrap (Int.tdiv x8_7 4))))] 39 (0, 0)) (by (with_reducible repeat (first | refine blk_drewN ?_ _ | refine blk_drew ?_ | refine blk_alloc ?_ _)); refine blk_put (cs := #[.int .i64 (wrap64 (Int.tmod (IntKind.u64.wrap (((rd_T39 l0 x6_1).f0))) x8_7)), .int .i64 (wrap64 (Int.tmod (IntKind.u64.wrap (((rd_T39 l0 x6_1).f1))) x8_7)), .int .i64 (wrap64 (Int.tmod (IntKind.u64.wrap (((rd_T39 l0 x6_1).f2))) x8_7)), .int .i64 (Go.bits .and .i64 ((rd_T39 l0 x6_1).f3) 3), .int .i64 (Go.bits .and .i64 ((rd_T39 l0 x6_1).f4) 3), .int .i64 ((rd_T39 l0 x6_1).f5)]) ?_ 5 _ rfl; (with_reducible repeat (first | refine blk_drewN ?_ _ | refine blk_drew ?_ | refine blk_alloc ?_ _)); refine blk_put (cs := #[.int .i64 (wrap64 (Int.tmod (IntKind.u64.wrap (((rd_T39 l0 x6_1).f0))) x8_7)), .int .i64 (wrap64 (Int.tmod (IntKind.u64.wrap (((rd_T39 l0 x6_1).f1))) x8_7)), .int .i64 ((rd_T39 l0 x6_1).f2), .int .i64 (Go.bits .and .i64 ((rd_T39 l0 x6_1).f3) 3), .int .i64 (Go.bits .and .i64 ((rd_T39 l0 x6_1).f4) 3), .int .i64 ((rd_T39 l0 x6_1).f5)]) ?_ 2 _ rfl; (with_reducible repeat (first | refine blk_drewN ?_ _ | refine blk_drew ?_ | refine blk_alloc ?_ _)); exact BK268.out) hg (Kd.R_away HO_5.out (fun _ hk => hk))); have n1_ := Aside0.mk (hb); have n2_ := Aside0.mk (ho); clear BK268; clear HB; clear HO_5; have BK268 := n0_; have HB := n1_; have HO280 := n2_; clear n0_ n1_ n2_; clear ho hb hg hat))
                              go_roundg kj7
                              case measure => have := HK1.out; have := HJ2.out; have := HJ7.out; omega
                              case rel => exact ⟨(y278), (wrap64 (x6_1 + 1)), (by first | rfl | (simp; done) | (simp [*]; done)), H', ⟨by have := HK1.out; have := HJ2.out; have := HJ7.out; omega⟩, ⟨by (with_reducible repeat (first | apply Kd.R_alloc | apply Kd.R_drewN | apply Kd.R_drew)); exact Kd.R_mono HO280.out (fun _ hk => trivial)⟩, ⟨by repeat (first | (with_reducible first | exact HB.out | apply below_alloc | apply pw_below_drewN | apply below_drew1 | refine below_set ?_ GE268.out) | exact HB.out)⟩⟩
                            · rw [if_neg c53] at H
                              exact absurd H (by simp)
              · rw [if_neg c7] at H
                exact absurd H (by simp)
            · rw [if_neg c6] at H
              exact absurd H (by simp)
          · replace c5 := Bool.eq_false_iff.mpr c5
            subst c5
            have H1 : (some x5_1) = some r := by rw [if_neg (show ¬ (false = true) by decide)] at H; exact H
            clear H
            have H := H1
            clear H1
            obtain rfl := Option.some.inj H
            go_wp2
            go_ret
            exact ⟨_, by first | rfl | (simp [errW_none, errW_some] <;> rfl) | (simp [*, errW_none, errW_some] <;> rfl), by (with_reducible repeat (first | apply Kd.R_alloc | apply Kd.R_drewN | apply Kd.R_drew)); exact HO_5.out, by repeat (first | (with_reducible first | exact HB.out | apply below_alloc | apply pw_below_drewN | apply below_drew1) | exact HB.out)⟩

end Go.Proofs.Ytlcghlcpngafgaa.PFree
