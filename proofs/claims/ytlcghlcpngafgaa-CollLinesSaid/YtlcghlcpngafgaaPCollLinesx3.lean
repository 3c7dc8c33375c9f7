-- WRITTEN BY wip/qprint.py (a driver of this session over the print): checked by Lean like any other text
import Derived.Test.YtlcghlcpngafgaaPCollLinesx0
import Derived.Test.YtlcghlcpngafgaaPCollLinesx1
import Derived.Test.YtlcghlcpngafgaaPCollLinesx2
namespace Go.Proofs.Ytlcghlcpngafgaa.PCollLines
open Go.RowKit Go.Proofs.YtlcghlcpngafgaaW.PrintWords Go.Proofs.YtlcghlcpngafgaaW.PrintLast Go.Proofs.YtlcghlcpngafgaaW.PrintMore
attribute [local go_sem] max2_int min2_int max_two min_two max_three min_three max_four min_four   -- for this text's walks alone
set_option linter.unusedVariables false
set_option linter.unusedSimpArgs false

attribute [local go_sem high] eqA25
/-! ### quoinlaw17_CollLines: function 6 -/
mutual
def quoinlaw17_CollLines.l0 : Nat → List Int → Int → Int → Option (Bool)
  | 0, _, _, _ => none
  | k + 1, x0, x1, x5 => if x5 < (x0.length : Int) then (if 0 ≤ x5 then (if (rd x0 x5) < 0 then (quoinlaw17_CollLines.l0 k (x0.set (x5 : Int).toNat (wrap64 (-(rd x0 x5)))) x1 (wrap64 (x5 + 1))) else (quoinlaw17_CollLines.l0 k x0 x1 (wrap64 (x5 + 1)))) else (none)) else ((coll_Lines.f k x0 x1 true).bind fun t147 => ((coll_Lines.f k x0 x1 false).bind fun t150 => (quoinlaw17_CollLines.l1 k x0 x1 t147 t150 0 0)))
def quoinlaw17_CollLines.l1 : Nat → List Int → Int → List (S25) → List (S25) → Int → Int → Option (Bool)
  | 0, _, _, _, _, _, _ => none
  | k + 1, x0, x1, x6, x7, x8, x9 => if x9 < (x6.length : Int) then (if 0 ≤ x9 then (if ((rd_T25 x6 x9).f0) = x8 then (if ((rd_T25 x6 x9).f1) ≤ x8 then (quoinlaw17_CollLines.j2 k x0 x1 x6 x7 x9 true) else (quoinlaw17_CollLines.j2 k x0 x1 x6 x7 x9 (decide (((rd_T25 x6 x9).f1) > (x0.length : Int))))) else (quoinlaw17_CollLines.j2 k x0 x1 x6 x7 x9 true)) else (none)) else (if x8 = (x0.length : Int) then (if (x0.length : Int) = 0 then (if (x7.length : Int) = 0 then ((quoinlaw17_awake.f k).bind fun t153 => (some t153)) else (if (x7.length : Int) = 1 then (if 0 < (x7.length : Int) then (if (((rd_T25 x7 0).f0) == 0 && (((rd_T25 x7 0).f1) == (x0.length : Int))) = true then ((quoinlaw17_awake.f k).bind fun t155 => (some t155)) else (some false)) else (none)) else (some false))) else (if (x7.length : Int) = 1 then (if 0 < (x7.length : Int) then (if (((rd_T25 x7 0).f0) == 0 && (((rd_T25 x7 0).f1) == (x0.length : Int))) = true then ((quoinlaw17_awake.f k).bind fun t157 => (some t157)) else (some false)) else (none)) else (some false))) else (some false))
def quoinlaw17_CollLines.j2 : Nat → List Int → Int → List (S25) → List (S25) → Int → Bool → Option (Bool)
  | 0, _, _, _, _, _, _ => none
  | k + 1, x0, x1, x6, x7, x9, x72 => if x72 = true then (some false) else (if 0 ≤ x9 then (if x9 < (x6.length : Int) then (quoinlaw17_CollLines.l2 k x0 x1 x6 x7 ((rd_T25 x6 x9).f1) x9 0 ((rd_T25 x6 x9).f0)) else (none)) else (none))
def quoinlaw17_CollLines.l2 : Nat → List Int → Int → List (S25) → List (S25) → Int → Int → Int → Int → Option (Bool)
  | 0, _, _, _, _, _, _, _, _ => none
  | k + 1, x0, x1, x6, x7, x8, x9, x10, x11 => if x11 < x8 then (if 0 ≤ x11 then (if x11 < (x0.length : Int) then (quoinlaw17_CollLines.l2 k x0 x1 x6 x7 x8 x9 (wrap64 (x10 + (rd x0 x11))) (wrap64 (x11 + 1))) else (none)) else (none)) else (if x10 > x1 then (if 0 ≤ x9 then (if x9 < (x6.length : Int) then (if (wrap64 (x8 - ((rd_T25 x6 x9).f0))) > 1 then (some false) else (if x8 < (x0.length : Int) then (if 0 ≤ x8 then (if (wrap64 (x10 + (rd x0 x8))) ≤ x1 then (some false) else (quoinlaw17_CollLines.l1 k x0 x1 x6 x7 x8 (wrap64 (x9 + 1)))) else (none)) else (quoinlaw17_CollLines.l1 k x0 x1 x6 x7 x8 (wrap64 (x9 + 1))))) else (none)) else (none)) else (if x8 < (x0.length : Int) then (if 0 ≤ x8 then (if (wrap64 (x10 + (rd x0 x8))) ≤ x1 then (some false) else (quoinlaw17_CollLines.l1 k x0 x1 x6 x7 x8 (wrap64 (x9 + 1)))) else (none)) else (quoinlaw17_CollLines.l1 k x0 x1 x6 x7 x8 (wrap64 (x9 + 1)))))
end
def quoinlaw17_CollLines.f (k : Nat) (l0 : List Int) (a1 : Int) : Option (Bool) := (quoinlaw17_Tame.f k l0 1000).bind fun t141 => (quoinlaw17_CollLines.l0 k t141 (Go.bits .and .i64 a1 4095) 0)
theorem quoinlaw17_CollLines.mono_l : ∀ k, (∀ y0 y1 y2, LeO (quoinlaw17_CollLines.l0 k y0 y1 y2) (quoinlaw17_CollLines.l0 (k + 1) y0 y1 y2)) ∧ (∀ y0 y1 y2 y3 y4 y5, LeO (quoinlaw17_CollLines.l1 k y0 y1 y2 y3 y4 y5) (quoinlaw17_CollLines.l1 (k + 1) y0 y1 y2 y3 y4 y5)) ∧ (∀ y0 y1 y2 y3 y4 y5, LeO (quoinlaw17_CollLines.j2 k y0 y1 y2 y3 y4 y5) (quoinlaw17_CollLines.j2 (k + 1) y0 y1 y2 y3 y4 y5)) ∧ (∀ y0 y1 y2 y3 y4 y5 y6 y7, LeO (quoinlaw17_CollLines.l2 k y0 y1 y2 y3 y4 y5 y6 y7) (quoinlaw17_CollLines.l2 (k + 1) y0 y1 y2 y3 y4 y5 y6 y7))
  | 0 => ⟨fun _ _ _ r h => by simp [quoinlaw17_CollLines.l0] at h, fun _ _ _ _ _ _ r h => by simp [quoinlaw17_CollLines.l1] at h, fun _ _ _ _ _ _ r h => by simp [quoinlaw17_CollLines.j2] at h, fun _ _ _ _ _ _ _ _ r h => by simp [quoinlaw17_CollLines.l2] at h⟩
  | k + 1 => by
    obtain ⟨ih0, ih1, ih2, ih3⟩ := quoinlaw17_CollLines.mono_l k
    refine ⟨?_, ?_, ?_, ?_⟩
    · intro y0 y1 y2
      unfold quoinlaw17_CollLines.l0
      repeat' first
      | (with_reducible exact ih0 _ _ _)
      | (with_reducible exact ih1 _ _ _ _ _ _)
      | (with_reducible exact ih2 _ _ _ _ _ _)
      | (with_reducible exact ih3 _ _ _ _ _ _ _ _)
      | (with_reducible exact coll_Lines.mono _ _ _ _)
      | (with_reducible exact quoinlaw17_Tame.mono _ _ _)
      | (with_reducible exact quoinlaw17_awake.mono _)
      | (with_reducible exact LeO.refl _)
      | (with_reducible exact LeO.none _)
      | (with_reducible refine LeO.ite ?_ ?_)
      | (with_reducible refine LeO.bind ?_ (fun _ => ?_))
      | exact ih0 _ _ _
      | exact ih1 _ _ _ _ _ _
      | exact ih2 _ _ _ _ _ _
      | exact ih3 _ _ _ _ _ _ _ _
      | exact coll_Lines.mono _ _ _ _
      | exact quoinlaw17_Tame.mono _ _ _
      | exact quoinlaw17_awake.mono _
      | exact LeO.none _
      | refine LeO.ite ?_ ?_
      | refine LeO.bind ?_ (fun _ => ?_)
    · intro y0 y1 y2 y3 y4 y5
      unfold quoinlaw17_CollLines.l1
      repeat' first
      | (with_reducible exact ih0 _ _ _)
      | (with_reducible exact ih1 _ _ _ _ _ _)
      | (with_reducible exact ih2 _ _ _ _ _ _)
      | (with_reducible exact ih3 _ _ _ _ _ _ _ _)
      | (with_reducible exact coll_Lines.mono _ _ _ _)
      | (with_reducible exact quoinlaw17_Tame.mono _ _ _)
      | (with_reducible exact quoinlaw17_awake.mono _)
      | (with_reducible exact LeO.refl _)
      | (with_reducible exact LeO.none _)
      | (with_reducible refine LeO.ite ?_ ?_)
      | (with_reducible refine LeO.bind ?_ (fun _ => ?_))
      | exact ih0 _ _ _
      | exact ih1 _ _ _ _ _ _
      | exact ih2 _ _ _ _ _ _
      | exact ih3 _ _ _ _ _ _ _ _
      | exact coll_Lines.mono _ _ _ _
      | exact quoinlaw17_Tame.mono _ _ _
      | exact quoinlaw17_awake.mono _
      | exact LeO.none _
      | refine LeO.ite ?_ ?_
      | refine LeO.bind ?_ (fun _ => ?_)
    · intro y0 y1 y2 y3 y4 y5
      unfold quoinlaw17_CollLines.j2
      repeat' first
      | (with_reducible exact ih0 _ _ _)
      | (with_reducible exact ih1 _ _ _ _ _ _)
      | (with_reducible exact ih2 _ _ _ _ _ _)
      | (with_reducible exact ih3 _ _ _ _ _ _ _ _)
      | (with_reducible exact coll_Lines.mono _ _ _ _)
      | (with_reducible exact quoinlaw17_Tame.mono _ _ _)
      | (with_reducible exact quoinlaw17_awake.mono _)
      | (with_reducible exact LeO.refl _)
      | (with_reducible exact LeO.none _)
      | (with_reducible refine LeO.ite ?_ ?_)
      | (with_reducible refine LeO.bind ?_ (fun _ => ?_))
      | exact ih0 _ _ _
      | exact ih1 _ _ _ _ _ _
      | exact ih2 _ _ _ _ _ _
      | exact ih3 _ _ _ _ _ _ _ _
      | exact coll_Lines.mono _ _ _ _
      | exact quoinlaw17_Tame.mono _ _ _
      | exact quoinlaw17_awake.mono _
      | exact LeO.none _
      | refine LeO.ite ?_ ?_
      | refine LeO.bind ?_ (fun _ => ?_)
    · intro y0 y1 y2 y3 y4 y5 y6 y7
      unfold quoinlaw17_CollLines.l2
      repeat' first
      | (with_reducible exact ih0 _ _ _)
      | (with_reducible exact ih1 _ _ _ _ _ _)
      | (with_reducible exact ih2 _ _ _ _ _ _)
      | (with_reducible exact ih3 _ _ _ _ _ _ _ _)
      | (with_reducible exact coll_Lines.mono _ _ _ _)
      | (with_reducible exact quoinlaw17_Tame.mono _ _ _)
      | (with_reducible exact quoinlaw17_awake.mono _)
      | (with_reducible exact LeO.refl _)
      | (with_reducible exact LeO.none _)
      | (with_reducible refine LeO.ite ?_ ?_)
      | (with_reducible refine LeO.bind ?_ (fun _ => ?_))
      | exact ih0 _ _ _
      | exact ih1 _ _ _ _ _ _
      | exact ih2 _ _ _ _ _ _
      | exact ih3 _ _ _ _ _ _ _ _
      | exact coll_Lines.mono _ _ _ _
      | exact quoinlaw17_Tame.mono _ _ _
      | exact quoinlaw17_awake.mono _
      | exact LeO.none _
      | refine LeO.ite ?_ ?_
      | refine LeO.bind ?_ (fun _ => ?_)
theorem quoinlaw17_CollLines.mono : ∀ a0 a1 k, LeO (quoinlaw17_CollLines.f k a0 a1) (quoinlaw17_CollLines.f (k + 1) a0 a1) := by
  intro a0 a1 k
  obtain ⟨ih0, ih1, ih2, ih3⟩ := quoinlaw17_CollLines.mono_l k
  unfold quoinlaw17_CollLines.f
  repeat' first
      | (with_reducible exact ih0 _ _ _)
      | (with_reducible exact ih1 _ _ _ _ _ _)
      | (with_reducible exact ih2 _ _ _ _ _ _)
      | (with_reducible exact ih3 _ _ _ _ _ _ _ _)
      | (with_reducible exact coll_Lines.mono _ _ _ _)
      | (with_reducible exact quoinlaw17_Tame.mono _ _ _)
      | (with_reducible exact quoinlaw17_awake.mono _)
      | (with_reducible exact LeO.refl _)
      | (with_reducible exact LeO.none _)
      | (with_reducible refine LeO.ite ?_ ?_)
      | (with_reducible refine LeO.bind ?_ (fun _ => ?_))
      | exact ih0 _ _ _
      | exact ih1 _ _ _ _ _ _
      | exact ih2 _ _ _ _ _ _
      | exact ih3 _ _ _ _ _ _ _ _
      | exact coll_Lines.mono _ _ _ _
      | exact quoinlaw17_Tame.mono _ _ _
      | exact quoinlaw17_awake.mono _
      | exact LeO.none _
      | refine LeO.ite ?_ ?_
      | refine LeO.bind ?_ (fun _ => ?_)
set_option maxHeartbeats 8000000 in
set_option maxRecDepth 100000 in
theorem quoinlaw17_CollLines.calls (k : Nat) (A0 : Option Addr) (c0 : Nat) (l0 : List Int) (a1 : Int) (r : Bool) (w : World) (hr0 : Kd.C (Kd.int .i64) w A0 l0.length l0) (hc0 : l0.length ≤ c0) (h : quoinlaw17_CollLines.f k l0 a1 = some r) :
    Calls Try.prog 6 #[.slice A0 l0.length c0, .int .i64 a1] w fun e w' => e = .returned (.bool r) ∧ Below w.heap.size w w' := by
  have hu25 := Try.underlying25
  have HR0 := Aside0.mk hr0
  have HC0 := Aside0.mk hc0
  clear hr0 hc0
  have HB := Aside0.mk (Below.refl w.heap.size w)
  have H : ((quoinlaw17_Tame.f k l0 1000).bind fun t141 => (quoinlaw17_CollLines.l0 k t141 (Go.bits .and .i64 a1 4095) 0)) = some r := h
  clear h
  replace H := Option.bind_eq_some_iff.mp H
  obtain ⟨t141, A30, H⟩ := H
  replace H : (quoinlaw17_CollLines.l0 k t141 (Go.bits .and .i64 a1 4095) 0) = some r := H
  have A3 := Aside0.mk A30
  clear A30
  have H' := Aside0.mk H
  clear H
  go_enter Try.func6, Try.ntmps6
  go_wp2_with (first | ((with_reducible refine gate_callee (f := 16) rfl ?_); refine goesL_ (some 13) rfl rfl Try.func16 (by kernel_rfl) rfl #[.slice A0 l0.length c0, .int .i64 1000] rfl (by (try simp only [List.map_toArray, List.map_cons, List.map_nil]); first | done | rfl | (simp only [List.length_drop, List.length_take]; rfl)) ?_; (with_reducible refine (quoinlaw17_Tame.calls k _ _ l0 1000 t141 _ ?side1 ?side2 A3.out).mono ?_); (case side1 => repeat (first | exact HR0.out | (with_reducible refine Kd.C_alloc ?_ _) | (with_reducible refine Kd.C_drewN ?_ _) | (with_reducible refine Kd.C_drew ?_))); (case side2 => exact HC0.out); rintro e w4 ⟨v142, rfl, ho0, hb⟩; refine ⟨_, rfl, ?_⟩; have n0_ := Aside0.mk (Kd.R_lower ho0 (below_size (by repeat (first | (with_reducible first | exact HB.out | apply below_alloc | apply pw_below_drewN | apply below_drew1) | exact HB.out)))); have n1_ := Aside0.mk (below_step (by repeat (first | (with_reducible first | exact HB.out | apply below_alloc | apply pw_below_drewN | apply below_drew1) | exact HB.out)) hb); clear HB; have HO143 := n0_; have HB := n1_; clear n0_ n1_; (try clear hb); (try clear hb2); (try clear hk); (try clear hi); (try clear ho0)))
  go_loopg [5] k (fun kq v5 w' => ∃ (x0_1 : List Int) (x5_1 : Int), v5 = .int .i64 x5_1 ∧ Aside0 (quoinlaw17_CollLines.l0 kq x0_1 (Go.bits .and .i64 a1 4095) x5_1 = some r) ∧ Aside0 (kq ≤ k) ∧ Aside0 (Kd.R (Kd.int .i64) 2 w' w.heap.size (fun _ => True) v142 x0_1) ∧ Aside0 (Below w.heap.size w w'))
  case atStart => exact ⟨(t141), (0), (by first | rfl | (simp; done) | (simp [*]; done)), H', ⟨Nat.le_refl _⟩, ⟨by (with_reducible repeat (first | apply Kd.R_alloc | apply Kd.R_drewN | apply Kd.R_drew)); exact HO143.out⟩, ⟨by repeat (first | (with_reducible first | exact HB.out | apply below_alloc | apply pw_below_drewN | apply below_drew1) | exact HB.out)⟩⟩
  case round =>
    clear H'
    try clear c1
    try clear p2
    obtain ⟨x0_1, x5_1, rfl, HA, HK1, HO_0, HB⟩ := hrel
    cases gk with
    | zero => exact absurd HA.out (by simp [quoinlaw17_CollLines.l0])
    | succ k1 =>
      have H := HA.out
      clear HA
      simp only [quoinlaw17_CollLines.l0] at H
      by_cases c5 : x5_1 < (x0_1.length : Int)
      · rw [if_pos c5] at H
        have c5b0 : decide (x5_1 < (x0_1.length : Int)) = true := decide_eq_true c5
        clear c5
        by_cases c6 : 0 ≤ x5_1
        · rw [if_pos c6] at H
          have c6b0 : decide (0 ≤ x5_1) = true := decide_eq_true c6
          clear c6
          by_cases c7 : (rd x0_1 x5_1) < 0
          · rw [if_pos c7] at H
            have c7b0 : decide ((rd x0_1 x5_1) < 0) = true := decide_eq_true c7
            clear c7
            obtain ⟨y146, hy146⟩ : ∃ y_ : List Int, y_ = (x0_1.set (x5_1 : Int).toNat (wrap64 (-(rd x0_1 x5_1)))) := ⟨_, rfl⟩
            replace H : (quoinlaw17_CollLines.l0 k1 y146 (Go.bits .and .i64 a1 4095) (wrap64 (x5_1 + 1))) = some r := by first | (rw [hy146]; with_reducible exact H) | (have H2_ := (Option.bind_some _ _).symm.trans H; rw [hy146]; with_reducible exact H2_) | (have H2_ := (Option.bind_some _ _).symm.trans H; with_reducible exact H2_) | with_reducible exact H | (rw [hy146]; exact H) | exact H
            have Ny146 := Aside0.mk hy146
            clear hy146
            have H' := Aside0.mk H
            clear H
            obtain ⟨Ao9, co9, eo9⟩ := Kd.R_slice HO_0.out
            subst eo9
            have p144 : 0 ≤ (x5_1 : Int) := of_decide_eq_true (by first | (with_reducible assumption) | assumption)
            have q144 : x5_1 < (x0_1.length : Int) := of_decide_eq_true (by first | (with_reducible assumption) | assumption)
            obtain ⟨ad144, e144, hx144_0⟩ := Kd.at_int (Kd.R_reads' HO_0.out).2.2 x5_1 p144 q144
            cases e144
            replace p144 := eq_true p144
            replace q144 := eq_true q144
            have p145 : 0 ≤ (x5_1 : Int) := of_decide_eq_true (by first | (with_reducible assumption) | assumption)
            have q145 : x5_1 < (x0_1.length : Int) := of_decide_eq_true (by first | (with_reducible assumption) | assumption)
            obtain ⟨ad145, e145, hx145_0⟩ := Kd.at_int (Kd.R_reads' HO_0.out).2.2 x5_1 p145 q145
            obtain rfl : ad144 = ad145 := (by injection e145)
            replace p145 := eq_true p145
            replace q145 := eq_true q145
            have p8 : 0 ≤ (x5_1 : Int) := of_decide_eq_true (by first | (with_reducible assumption) | assumption)
            have q8 : (x5_1 : Int) < ((x0_1.length : Int) : Int) := of_decide_eq_true (by first | (with_reducible assumption) | assumption)
            obtain ⟨go8, co8, eo8, gb8, gl8, cl8, HG8⟩ := Kd.R_form HO_0.out (by omega)
            (first | cases eo8 | (injection eo8 with ea_ en_ ec_; (first | subst ea_ | (injection ea_ with ea_; subst ea_)); subst ec_; clear en_))
            have GB8 := Aside0.mk gb8
            have GG8 := Aside0.mk HG8
            clear gb8 gl8 HG8
            (first | simp only [add_plain] at hx144_0 | skip)
            (first | simp only [add_plain] at hx145_0 | skip)
            obtain ⟨hx8_0, hf8_0⟩ := Kd.R_celln 0 HO_0.out (x5_1 : Int) p8 q8
            replace p8 := eq_true p8
            replace q8 := eq_true q8
            have HP10 := Kd.R_putg HO_0.out (x5_1 : Int) (wrap64 (-(rd x0_1 x5_1)))
            go_wp2_with (first | ((with_reducible refine gate_store (t := 2) (p := 34) rfl ?_); refine store_event (t := 2) (p := 34) (v := ?vo_w11) (w1 := (wr.setCell ⟨go8, (x5_1 : Int).toNat, none⟩ (.int .i64 (wrap64 (-(rd x0_1 x5_1)))))) ?hg ?ho ?hn ?hr ?_; (case ho => rfl); (case hg => rfl); (case hn => rfl); (case hr => first | (go_simp; done) | (go_simp; rfl)); intro w11 hw; have hg : wr.grownBy w11 (some go8) := (by rw [hw]; exact HP10.2); have hp_ : Kd.R (Kd.int .i64) 2 w11 w.heap.size (fun _ => True) (.slice (some ⟨go8, 0, none⟩) x0_1.length co9) y146 := (by rw [hw, Ny146.out]; exact HP10.1); clear HP10; have n0_ := Aside0.mk (hp_); have n1_ := Aside0.mk ((by rw [hw]; exact below_set (HB.out) GB8.out : Below w.heap.size w w11)); clear HO_0; clear HB; have HO_0 := n0_; have HB := n1_; clear n0_ n1_; clear hg hw hp_))
            go_roundg k1
            case measure => have := HK1.out; omega
            case rel => exact ⟨(y146), (wrap64 (x5_1 + 1)), (by first | rfl | (simp; done) | (simp [*]; done)), H', ⟨by have := HK1.out; omega⟩, ⟨by (with_reducible repeat (first | apply Kd.R_alloc | apply Kd.R_drewN | apply Kd.R_drew)); exact HO_0.out⟩, ⟨by repeat (first | (with_reducible first | exact HB.out | apply below_alloc | apply pw_below_drewN | apply below_drew1) | exact HB.out)⟩⟩
          · rw [if_neg c7] at H
            have c7b0 : decide ((rd x0_1 x5_1) < 0) = false := decide_eq_false c7
            clear c7
            have H' := Aside0.mk H
            clear H
            obtain ⟨Ao12, co12, eo12⟩ := Kd.R_slice HO_0.out
            subst eo12
            have p144 : 0 ≤ (x5_1 : Int) := of_decide_eq_true (by first | (with_reducible assumption) | assumption)
            have q144 : x5_1 < (x0_1.length : Int) := of_decide_eq_true (by first | (with_reducible assumption) | assumption)
            obtain ⟨ad144, e144, hx144_0⟩ := Kd.at_int (Kd.R_reads' HO_0.out).2.2 x5_1 p144 q144
            cases e144
            replace p144 := eq_true p144
            replace q144 := eq_true q144
            go_wp2
            go_roundg k1
            case measure => have := HK1.out; omega
            case rel => exact ⟨(x0_1), (wrap64 (x5_1 + 1)), (by first | rfl | (simp; done) | (simp [*]; done)), H', ⟨by have := HK1.out; omega⟩, ⟨by (with_reducible repeat (first | apply Kd.R_alloc | apply Kd.R_drewN | apply Kd.R_drew)); exact HO_0.out⟩, ⟨by repeat (first | (with_reducible first | exact HB.out | apply below_alloc | apply pw_below_drewN | apply below_drew1) | exact HB.out)⟩⟩
        · rw [if_neg c6] at H
          exact absurd H (by simp)
      · rw [if_neg c5] at H
        have c5b0 : decide (x5_1 < (x0_1.length : Int)) = false := decide_eq_false c5
        clear c5
        replace H := Option.bind_eq_some_iff.mp H
        obtain ⟨t147, A130, H⟩ := H
        replace H : ((coll_Lines.f k1 x0_1 (Go.bits .and .i64 a1 4095) false).bind fun t150 => (quoinlaw17_CollLines.l1 k1 x0_1 (Go.bits .and .i64 a1 4095) t147 t150 0 0)) = some r := H
        have A13 := Aside0.mk A130
        clear A130
        replace H := Option.bind_eq_some_iff.mp H
        obtain ⟨t150, A140, H⟩ := H
        replace H : (quoinlaw17_CollLines.l1 k1 x0_1 (Go.bits .and .i64 a1 4095) t147 t150 0 0) = some r := H
        have A14 := Aside0.mk A140
        clear A140
        have H' := Aside0.mk H
        clear H
        obtain ⟨Ao15, co15, eo15⟩ := Kd.R_slice HO_0.out
        subst eo15
        go_wp2_with (first | ((with_reducible refine gate_callee (f := 14) rfl ?_); refine goesL_ (some 37) rfl rfl Try.func14 (by kernel_rfl) rfl #[.slice Ao15 x0_1.length co15, .int .i64 (Go.bits .and .i64 a1 4095), .bool true] rfl (by (try simp only [List.map_toArray, List.map_cons, List.map_nil]); first | done | rfl | (simp only [List.length_drop, List.length_take]; rfl)) ?_; (with_reducible refine (coll_Lines.calls k1 _ _ x0_1 (Go.bits .and .i64 a1 4095) true t147 _ ?side1 ?side2 A13.out).mono ?_); (case side1 => repeat (first | exact (Kd.R_reads' HO_0.out).2.2 | (with_reducible refine Kd.C_alloc ?_ _) | (with_reducible refine Kd.C_drewN ?_ _) | (with_reducible refine Kd.C_drew ?_))); (case side2 => exact (Kd.R_reads' HO_0.out).2.1); rintro e w16 ⟨v148, rfl, ho0, hb⟩; refine ⟨_, rfl, ?_⟩; have n0_ := Aside0.mk (Kd.R_below (by (with_reducible repeat (first | apply Kd.R_alloc | apply Kd.R_drewN | apply Kd.R_drew)); exact HO_0.out) hb); have n1_ := Aside0.mk (Kd.R_lower ho0 (below_size (by repeat (first | (with_reducible first | exact HB.out | apply below_alloc | apply pw_below_drewN | apply below_drew1) | exact HB.out)))); have n2_ := Aside0.mk (below_step (by repeat (first | (with_reducible first | exact HB.out | apply below_alloc | apply pw_below_drewN | apply below_drew1) | exact HB.out)) hb); clear HO_0; clear HB; have HO_0 := n0_; have HO149 := n1_; have HB := n2_; clear n0_ n1_ n2_; (try clear hb); (try clear hb2); (try clear hk); (try clear hi); (try clear ho0)) | ((with_reducible refine gate_callee (f := 14) rfl ?_); refine goesL_ (some 40) rfl rfl Try.func14 (by kernel_rfl) rfl #[.slice Ao15 x0_1.length co15, .int .i64 (Go.bits .and .i64 a1 4095), .bool false] rfl (by (try simp only [List.map_toArray, List.map_cons, List.map_nil]); first | done | rfl | (simp only [List.length_drop, List.length_take]; rfl)) ?_; (with_reducible refine (coll_Lines.calls k1 _ _ x0_1 (Go.bits .and .i64 a1 4095) false t150 _ ?side1 ?side2 A14.out).mono ?_); (case side1 => repeat (first | exact (Kd.R_reads' HO_0.out).2.2 | (with_reducible refine Kd.C_alloc ?_ _) | (with_reducible refine Kd.C_drewN ?_ _) | (with_reducible refine Kd.C_drew ?_))); (case side2 => exact (Kd.R_reads' HO_0.out).2.1); rintro e w17 ⟨v151, rfl, ho0, hb⟩; refine ⟨_, rfl, ?_⟩; have n0_ := Aside0.mk (Kd.R_below (by (with_reducible repeat (first | apply Kd.R_alloc | apply Kd.R_drewN | apply Kd.R_drew)); exact HO_0.out) hb); have n1_ := Aside0.mk (Kd.R_elder' (by (with_reducible repeat (first | apply Kd.R_alloc | apply Kd.R_drewN | apply Kd.R_drew)); exact HO149.out) (Kd.R_base ho0) hb); have n2_ := Aside0.mk (Kd.R_lower (Kd.R_new' ho0 (Kd.R_lt (by (with_reducible repeat (first | apply Kd.R_alloc | apply Kd.R_drewN | apply Kd.R_drew)); exact HO149.out))) (below_size (by repeat (first | (with_reducible first | exact HB.out | apply below_alloc | apply pw_below_drewN | apply below_drew1) | exact HB.out)))); have n3_ := Aside0.mk (below_step (by repeat (first | (with_reducible first | exact HB.out | apply below_alloc | apply pw_below_drewN | apply below_drew1) | exact HB.out)) hb); clear HO_0; clear HO149; clear HB; have HO_0 := n0_; have HO149 := n1_; have HO152 := n2_; have HB := n3_; clear n0_ n1_ n2_ n3_; (try clear hb); (try clear hb2); (try clear hk); (try clear hi); (try clear ho0)))
        go_loopg [8, 9] k1 (fun kq v8 v9 w' => ∃ (x8_2 : Int) (x9_2 : Int), v8 = .int .i64 x8_2 ∧ v9 = .int .i64 x9_2 ∧ Aside0 (quoinlaw17_CollLines.l1 kq x0_1 (Go.bits .and .i64 a1 4095) t147 t150 x8_2 x9_2 = some r) ∧ Aside0 (kq ≤ k1) ∧ Aside0 (Kd.R (Kd.int .i64) 2 w' w.heap.size (fun _ => True) (.slice Ao15 x0_1.length co15) x0_1) ∧ Aside0 (Kd.R k25 25 w' w.heap.size (fun k_ => some k_ ≠ (v151 : Value).ownBlock) v148 t147) ∧ Aside0 (Kd.R k25 25 w' w.heap.size (fun k_ => some k_ ≠ (v148 : Value).ownBlock) v151 t150) ∧ Aside0 (Below w.heap.size w w'))
        case atStart => exact ⟨(0), (0), (by first | rfl | (simp; done) | (simp [*]; done)), (by first | rfl | (simp; done) | (simp [*]; done)), H', ⟨Nat.le_refl _⟩, ⟨by (with_reducible repeat (first | apply Kd.R_alloc | apply Kd.R_drewN | apply Kd.R_drew)); exact HO_0.out⟩, ⟨by (with_reducible repeat (first | apply Kd.R_alloc | apply Kd.R_drewN | apply Kd.R_drew)); exact Kd.R_mono HO149.out (fun _ hk => hk.2)⟩, ⟨by (with_reducible repeat (first | apply Kd.R_alloc | apply Kd.R_drewN | apply Kd.R_drew)); exact Kd.R_mono HO152.out (fun _ hk => hk.2)⟩, ⟨by repeat (first | (with_reducible first | exact HB.out | apply below_alloc | apply pw_below_drewN | apply below_drew1) | exact HB.out)⟩⟩
        case round =>
          clear H'
          try clear c1
          try clear p1
          try clear q1
          try clear hx1
          try clear p2
          try clear c5
          try clear c5b0
          try clear c6
          try clear c6b0
          try clear p6
          try clear c7
          try clear c7b0
          try clear p8
          try clear q8
          try clear hx8
          try clear hf8
          try clear c14
          try clear p14
          try clear q14
          try clear hx14
          try clear c16
          try clear hx144_0
          try clear hx145_0
          try clear hx8_0
          try clear p144
          try clear p145
          try clear p2
          try clear p8
          try clear q144
          try clear q145
          try clear q8
          obtain ⟨x8_2, x9_2, rfl, rfl, HA, HK2, HO_0, HO_6, HO_7, HB⟩ := hrel
          cases gk with
          | zero => exact absurd HA.out (by simp [quoinlaw17_CollLines.l1])
          | succ k2 =>
            have H := HA.out
            clear HA
            simp only [quoinlaw17_CollLines.l1] at H
            by_cases c18 : x9_2 < (t147.length : Int)
            · rw [if_pos c18] at H
              have c18b0 : decide (x9_2 < (t147.length : Int)) = true := decide_eq_true c18
              clear c18
              have HC19 := Aside0.mk H
              clear H
              obtain ⟨Ao20, co20, eo20⟩ := Kd.R_slice HO_6.out
              subst eo20
              go_upto_region 12 with (fail)
              go_cut [72] (fun v72 wc => ∃ (kq : Nat) (x72_18 : Bool), v72 = .bool x72_18 ∧ Aside0 (quoinlaw17_CollLines.j2 kq x0_1 (Go.bits .and .i64 a1 4095) t147 t150 x9_2 x72_18 = some r) ∧ Aside0 (kq ≤ k2) ∧ Aside0 (Kd.R (Kd.int .i64) 2 wc w.heap.size (fun _ => True) (.slice Ao15 x0_1.length co15) x0_1) ∧ Aside0 (Kd.R k25 25 wc w.heap.size (fun k_ => some k_ ≠ (v151 : Value).ownBlock) (.slice Ao20 t147.length co20) t147) ∧ Aside0 (Kd.R k25 25 wc w.heap.size (fun k_ => some k_ ≠ ((.slice Ao20 t147.length co20) : Value).ownBlock) v151 t150) ∧ Aside0 (Below w.heap.size w wc))
              case first =>
                have H := HC19.out
                clear HC19
                by_cases c21 : 0 ≤ x9_2
                · rw [if_pos c21] at H
                  have c21b0 : decide (0 ≤ x9_2) = true := decide_eq_true c21
                  clear c21
                  (first | rw [c21b0] | (simp only [i64_w, i32_w]; rw [c21b0]) | skip)
                  by_cases c22 : ((rd_T25 t147 x9_2).f0) = x8_2
                  · rw [if_pos c22] at H
                    have c22b0 : (((rd_T25 t147 x9_2).f0) == x8_2) = true := beq_iff_eq.mpr c22
                    have c22b1 : (((rd_T25 t147 x9_2).f0) != x8_2) = false := bne_eq_false_iff_eq.mpr c22
                    clear c22
                    by_cases c23 : ((rd_T25 t147 x9_2).f1) ≤ x8_2
                    · rw [if_pos c23] at H
                      have c23b0 : decide (((rd_T25 t147 x9_2).f1) ≤ x8_2) = true := decide_eq_true c23
                      clear c23
                      have H' := Aside0.mk H
                      clear H
                      have p158 : 0 ≤ (x9_2 : Int) := of_decide_eq_true (by first | (with_reducible assumption) | assumption)
                      have q158 : x9_2 < (t147.length : Int) := of_decide_eq_true (by first | (with_reducible assumption) | assumption)
                      obtain ⟨ad158, e158, hx158_0, hx158_1⟩ := at_T25 (Kd.R_reads' HO_6.out).2.2 x9_2 p158 q158
                      cases e158
                      replace p158 := eq_true p158
                      replace q158 := eq_true q158
                      have p159 : 0 ≤ (x9_2 : Int) := of_decide_eq_true (by first | (with_reducible assumption) | assumption)
                      have q159 : x9_2 < (t147.length : Int) := of_decide_eq_true (by first | (with_reducible assumption) | assumption)
                      obtain ⟨ad159, e159, hx159_0, hx159_1⟩ := at_T25 (Kd.R_reads' HO_6.out).2.2 x9_2 p159 q159
                      obtain rfl : ad158 = ad159 := (by injection e159)
                      replace p159 := eq_true p159
                      replace q159 := eq_true q159
                      go_wp2
                      go_meet
                      case rel => exact ⟨_, (true), (by first | rfl | (simp; done) | (simp [*]; done)), H', ⟨by have := HK1.out; have := HK2.out; first | omega | exact Nat.le_refl _⟩, ⟨by (with_reducible repeat (first | apply Kd.R_alloc | apply Kd.R_drewN | apply Kd.R_drew)); exact HO_0.out⟩, ⟨by (with_reducible repeat (first | apply Kd.R_alloc | apply Kd.R_drewN | apply Kd.R_drew)); exact HO_6.out⟩, ⟨by (with_reducible repeat (first | apply Kd.R_alloc | apply Kd.R_drewN | apply Kd.R_drew)); exact HO_7.out⟩, ⟨by repeat (first | (with_reducible first | exact HB.out | apply below_alloc | apply pw_below_drewN | apply below_drew1) | exact HB.out)⟩⟩
                    · rw [if_neg c23] at H
                      have c23b0 : decide (((rd_T25 t147 x9_2).f1) ≤ x8_2) = false := decide_eq_false c23
                      clear c23
                      have H' := Aside0.mk H
                      clear H
                      have p158 : 0 ≤ (x9_2 : Int) := of_decide_eq_true (by first | (with_reducible assumption) | assumption)
                      have q158 : x9_2 < (t147.length : Int) := of_decide_eq_true (by first | (with_reducible assumption) | assumption)
                      obtain ⟨ad158, e158, hx158_0, hx158_1⟩ := at_T25 (Kd.R_reads' HO_6.out).2.2 x9_2 p158 q158
                      cases e158
                      replace p158 := eq_true p158
                      replace q158 := eq_true q158
                      have p159 : 0 ≤ (x9_2 : Int) := of_decide_eq_true (by first | (with_reducible assumption) | assumption)
                      have q159 : x9_2 < (t147.length : Int) := of_decide_eq_true (by first | (with_reducible assumption) | assumption)
                      obtain ⟨ad159, e159, hx159_0, hx159_1⟩ := at_T25 (Kd.R_reads' HO_6.out).2.2 x9_2 p159 q159
                      obtain rfl : ad158 = ad159 := (by injection e159)
                      replace p159 := eq_true p159
                      replace q159 := eq_true q159
                      have p160 : 0 ≤ (x9_2 : Int) := of_decide_eq_true (by first | (with_reducible assumption) | assumption)
                      have q160 : x9_2 < (t147.length : Int) := of_decide_eq_true (by first | (with_reducible assumption) | assumption)
                      obtain ⟨ad160, e160, hx160_0, hx160_1⟩ := at_T25 (Kd.R_reads' HO_6.out).2.2 x9_2 p160 q160
                      obtain rfl : ad158 = ad160 := (by injection e160)
                      replace p160 := eq_true p160
                      replace q160 := eq_true q160
                      go_wp2
                      go_meet
                      case rel => exact ⟨_, (decide (((rd_T25 t147 x9_2).f1) > (x0_1.length : Int))), (by first | rfl | (simp; done) | (simp [*]; done)), H', ⟨by have := HK1.out; have := HK2.out; first | omega | exact Nat.le_refl _⟩, ⟨by (with_reducible repeat (first | apply Kd.R_alloc | apply Kd.R_drewN | apply Kd.R_drew)); exact HO_0.out⟩, ⟨by (with_reducible repeat (first | apply Kd.R_alloc | apply Kd.R_drewN | apply Kd.R_drew)); exact HO_6.out⟩, ⟨by (with_reducible repeat (first | apply Kd.R_alloc | apply Kd.R_drewN | apply Kd.R_drew)); exact HO_7.out⟩, ⟨by repeat (first | (with_reducible first | exact HB.out | apply below_alloc | apply pw_below_drewN | apply below_drew1) | exact HB.out)⟩⟩
                  · rw [if_neg c22] at H
                    have c22b0 : (((rd_T25 t147 x9_2).f0) == x8_2) = false := beq_eq_false_iff_ne.mpr c22
                    have c22b1 : (((rd_T25 t147 x9_2).f0) != x8_2) = true := bne_iff_ne.mpr c22
                    have H' := Aside0.mk H
                    clear H
                    have p158 : 0 ≤ (x9_2 : Int) := of_decide_eq_true (by first | (with_reducible assumption) | assumption)
                    have q158 : x9_2 < (t147.length : Int) := of_decide_eq_true (by first | (with_reducible assumption) | assumption)
                    obtain ⟨ad158, e158, hx158_0, hx158_1⟩ := at_T25 (Kd.R_reads' HO_6.out).2.2 x9_2 p158 q158
                    cases e158
                    replace p158 := eq_true p158
                    replace q158 := eq_true q158
                    go_wp2
                    go_meet
                    case rel => exact ⟨_, (true), (by first | rfl | (simp; done) | (simp [*]; done)), H', ⟨by have := HK1.out; have := HK2.out; first | omega | exact Nat.le_refl _⟩, ⟨by (with_reducible repeat (first | apply Kd.R_alloc | apply Kd.R_drewN | apply Kd.R_drew)); exact HO_0.out⟩, ⟨by (with_reducible repeat (first | apply Kd.R_alloc | apply Kd.R_drewN | apply Kd.R_drew)); exact HO_6.out⟩, ⟨by (with_reducible repeat (first | apply Kd.R_alloc | apply Kd.R_drewN | apply Kd.R_drew)); exact HO_7.out⟩, ⟨by repeat (first | (with_reducible first | exact HB.out | apply below_alloc | apply pw_below_drewN | apply below_drew1) | exact HB.out)⟩⟩
                · rw [if_neg c21] at H
                  exact absurd H (by simp)
              case rest =>
                clear HC19
                try clear c1
                try clear p1
                try clear q1
                try clear hx1
                try clear c2
                try clear p2
                try clear c5
                try clear c5b0
                try clear c6
                try clear c6b0
                try clear p6
                try clear c7
                try clear c7b0
                try clear p8
                try clear q8
                try clear hx8
                try clear hf8
                try clear c14
                try clear p14
                try clear q14
                try clear hx14
                try clear p15
                try clear q15
                try clear hx15
                try clear c16
                try clear p16
                try clear q16
                try clear hx16
                try clear c18
                try clear c18b0
                try clear c21
                try clear c21b0
                try clear c22
                try clear c22b0
                try clear c22b1
                try clear c23
                try clear c23b0
                try clear hx144_0
                try clear hx145_0
                try clear hx158_0
                try clear hx158_1
                try clear hx159_0
                try clear hx159_1
                try clear hx160_0
                try clear hx160_1
                try clear hx8_0
                try clear p1
                try clear p14
                try clear p144
                try clear p145
                try clear p158
                try clear p159
                try clear p160
                try clear p2
                try clear p6
                try clear p8
                try clear q1
                try clear q14
                try clear q144
                try clear q145
                try clear q158
                try clear q159
                try clear q160
                try clear q8
                obtain ⟨kq, x72_18, rfl, HA, HJ18, HO_0, HO_6, HO_7, HB⟩ := hcut
                cases kq with
                | zero => exact absurd HA.out (by simp [quoinlaw17_CollLines.j2])
                | succ kj18 =>
                  have H := HA.out
                  clear HA
                  simp only [quoinlaw17_CollLines.j2] at H
                  by_cases c24 : x72_18 = true
                  · subst c24
                    have H1 : (some false) = some r := by rw [if_pos rfl] at H; exact H
                    clear H
                    have H := H1
                    clear H1
                    obtain rfl := Option.some.inj H
                    go_wp2
                    go_ret
                    exact ⟨by first | rfl | (simp [errW_none, errW_some] <;> rfl) | (simp [*, errW_none, errW_some] <;> rfl), by repeat (first | (with_reducible first | exact HB.out | apply below_alloc | apply pw_below_drewN | apply below_drew1) | exact HB.out)⟩
                  · replace c24 := Bool.eq_false_iff.mpr c24
                    subst c24
                    have H1 : (if 0 ≤ x9_2 then (if x9_2 < (t147.length : Int) then (quoinlaw17_CollLines.l2 kj18 x0_1 (Go.bits .and .i64 a1 4095) t147 t150 ((rd_T25 t147 x9_2).f1) x9_2 0 ((rd_T25 t147 x9_2).f0)) else (none)) else (none)) = some r := by rw [if_neg (show ¬ (false = true) by decide)] at H; exact H
                    clear H
                    have H := H1
                    clear H1
                    by_cases c25 : 0 ≤ x9_2
                    · rw [if_pos c25] at H
                      have c25b0 : decide (0 ≤ x9_2) = true := decide_eq_true c25
                      clear c25
                      by_cases c26 : x9_2 < (t147.length : Int)
                      · rw [if_pos c26] at H
                        have c26b0 : decide (x9_2 < (t147.length : Int)) = true := decide_eq_true c26
                        clear c26
                        have H' := Aside0.mk H
                        clear H
                        have p161 : 0 ≤ (x9_2 : Int) := of_decide_eq_true (by first | (with_reducible assumption) | assumption)
                        have q161 : x9_2 < (t147.length : Int) := of_decide_eq_true (by first | (with_reducible assumption) | assumption)
                        obtain ⟨ad161, e161, hx161_0, hx161_1⟩ := at_T25 (Kd.R_reads' HO_6.out).2.2 x9_2 p161 q161
                        cases e161
                        replace p161 := eq_true p161
                        replace q161 := eq_true q161
                        have p162 : 0 ≤ (x9_2 : Int) := of_decide_eq_true (by first | (with_reducible assumption) | assumption)
                        have q162 : x9_2 < (t147.length : Int) := of_decide_eq_true (by first | (with_reducible assumption) | assumption)
                        obtain ⟨ad162, e162, hx162_0, hx162_1⟩ := at_T25 (Kd.R_reads' HO_6.out).2.2 x9_2 p162 q162
                        obtain rfl : ad161 = ad162 := (by injection e162)
                        replace p162 := eq_true p162
                        replace q162 := eq_true q162
                        go_wp2
                        go_loopg [10, 11] kj18 (fun kq v10 v11 w' => ∃ (x10_4 : Int) (x11_4 : Int), v10 = .int .i64 x10_4 ∧ v11 = .int .i64 x11_4 ∧ Aside0 (quoinlaw17_CollLines.l2 kq x0_1 (Go.bits .and .i64 a1 4095) t147 t150 ((rd_T25 t147 x9_2).f1) x9_2 x10_4 x11_4 = some r) ∧ Aside0 (kq ≤ kj18) ∧ Aside0 (Kd.R (Kd.int .i64) 2 w' w.heap.size (fun _ => True) (.slice Ao15 x0_1.length co15) x0_1) ∧ Aside0 (Kd.R k25 25 w' w.heap.size (fun k_ => some k_ ≠ (v151 : Value).ownBlock) (.slice (some ad161) t147.length co20) t147) ∧ Aside0 (Kd.R k25 25 w' w.heap.size (fun k_ => some k_ ≠ ((.slice (some ad161) t147.length co20) : Value).ownBlock) v151 t150) ∧ Aside0 (Below w.heap.size w w'))
                        case atStart => exact ⟨(0), ((rd_T25 t147 x9_2).f0), (by first | rfl | (simp; done) | (simp [*]; done)), (by first | rfl | (simp; done) | (simp [*]; done)), H', ⟨Nat.le_refl _⟩, ⟨by (with_reducible repeat (first | apply Kd.R_alloc | apply Kd.R_drewN | apply Kd.R_drew)); exact HO_0.out⟩, ⟨by (with_reducible repeat (first | apply Kd.R_alloc | apply Kd.R_drewN | apply Kd.R_drew)); exact HO_6.out⟩, ⟨by (with_reducible repeat (first | apply Kd.R_alloc | apply Kd.R_drewN | apply Kd.R_drew)); exact HO_7.out⟩, ⟨by repeat (first | (with_reducible first | exact HB.out | apply below_alloc | apply pw_below_drewN | apply below_drew1) | exact HB.out)⟩⟩
                        case round =>
                          clear H'
                          try clear c1
                          try clear p1
                          try clear q1
                          try clear hx1
                          try clear c2
                          try clear p2
                          try clear c5
                          try clear c5b0
                          try clear c6
                          try clear c6b0
                          try clear p6
                          try clear c7
                          try clear c7b0
                          try clear p8
                          try clear q8
                          try clear hx8
                          try clear hf8
                          try clear c14
                          try clear p14
                          try clear q14
                          try clear hx14
                          try clear p15
                          try clear q15
                          try clear hx15
                          try clear c16
                          try clear p16
                          try clear q16
                          try clear hx16
                          try clear c18
                          try clear c18b0
                          try clear c21
                          try clear c21b0
                          try clear c22
                          try clear c22b0
                          try clear c22b1
                          try clear c23
                          try clear c23b0
                          try clear c24
                          try clear c25
                          try clear c25b0
                          try clear c26
                          try clear c26b0
                          try clear hx144_0
                          try clear hx145_0
                          try clear hx158_0
                          try clear hx158_1
                          try clear hx159_0
                          try clear hx159_1
                          try clear hx160_0
                          try clear hx160_1
                          try clear hx161_0
                          try clear hx161_1
                          try clear hx162_0
                          try clear hx162_1
                          try clear hx8_0
                          try clear p1
                          try clear p14
                          try clear p144
                          try clear p145
                          try clear p15
                          try clear p158
                          try clear p159
                          try clear p16
                          try clear p160
                          try clear p161
                          try clear p162
                          try clear p2
                          try clear p6
                          try clear p8
                          try clear q1
                          try clear q14
                          try clear q144
                          try clear q145
                          try clear q15
                          try clear q158
                          try clear q159
                          try clear q16
                          try clear q160
                          try clear q161
                          try clear q162
                          try clear q8
                          obtain ⟨x10_4, x11_4, rfl, rfl, HA, HK4, HO_0, HO_6, HO_7, HB⟩ := hrel
                          cases gk with
                          | zero => exact absurd HA.out (by simp [quoinlaw17_CollLines.l2])
                          | succ k4 =>
                            have H := HA.out
                            clear HA
                            simp only [quoinlaw17_CollLines.l2] at H
                            by_cases c27 : x11_4 < ((rd_T25 t147 x9_2).f1)
                            · rw [if_pos c27] at H
                              have c27b0 : decide (x11_4 < ((rd_T25 t147 x9_2).f1)) = true := decide_eq_true c27
                              clear c27
                              by_cases c28 : 0 ≤ x11_4
                              · rw [if_pos c28] at H
                                have c28b0 : decide (0 ≤ x11_4) = true := decide_eq_true c28
                                clear c28
                                by_cases c29 : x11_4 < (x0_1.length : Int)
                                · rw [if_pos c29] at H
                                  have c29b0 : decide (x11_4 < (x0_1.length : Int)) = true := decide_eq_true c29
                                  clear c29
                                  have H' := Aside0.mk H
                                  clear H
                                  have p163 : 0 ≤ (x11_4 : Int) := of_decide_eq_true (by first | (with_reducible assumption) | assumption)
                                  have q163 : x11_4 < (x0_1.length : Int) := of_decide_eq_true (by first | (with_reducible assumption) | assumption)
                                  obtain ⟨ad163, e163, hx163_0⟩ := Kd.at_int (Kd.R_reads' HO_0.out).2.2 x11_4 p163 q163
                                  cases e163
                                  replace p163 := eq_true p163
                                  replace q163 := eq_true q163
                                  go_wp2
                                  go_roundg k4
                                  case measure => have := HK1.out; have := HK2.out; have := HJ18.out; have := HK4.out; omega
                                  case rel => exact ⟨(wrap64 (x10_4 + (rd x0_1 x11_4))), (wrap64 (x11_4 + 1)), (by first | rfl | (simp; done) | (simp [*]; done)), (by first | rfl | (simp; done) | (simp [*]; done)), H', ⟨by have := HK1.out; have := HK2.out; have := HJ18.out; have := HK4.out; omega⟩, ⟨by (with_reducible repeat (first | apply Kd.R_alloc | apply Kd.R_drewN | apply Kd.R_drew)); exact HO_0.out⟩, ⟨by (with_reducible repeat (first | apply Kd.R_alloc | apply Kd.R_drewN | apply Kd.R_drew)); exact HO_6.out⟩, ⟨by (with_reducible repeat (first | apply Kd.R_alloc | apply Kd.R_drewN | apply Kd.R_drew)); exact HO_7.out⟩, ⟨by repeat (first | (with_reducible first | exact HB.out | apply below_alloc | apply pw_below_drewN | apply below_drew1) | exact HB.out)⟩⟩
                                · rw [if_neg c29] at H
                                  exact absurd H (by simp)
                              · rw [if_neg c28] at H
                                exact absurd H (by simp)
                            · rw [if_neg c27] at H
                              have c27b0 : decide (x11_4 < ((rd_T25 t147 x9_2).f1)) = false := decide_eq_false c27
                              clear c27
                              by_cases c30 : x10_4 > (Go.bits .and .i64 a1 4095)
                              · rw [if_pos c30] at H
                                have c30b0 : decide ((Go.bits .and .i64 a1 4095) < x10_4) = true := decide_eq_true c30
                                clear c30
                                by_cases c31 : 0 ≤ x9_2
                                · rw [if_pos c31] at H
                                  have c31b0 : decide (0 ≤ x9_2) = true := decide_eq_true c31
                                  clear c31
                                  by_cases c32 : x9_2 < (t147.length : Int)
                                  · rw [if_pos c32] at H
                                    have c32b0 : decide (x9_2 < (t147.length : Int)) = true := decide_eq_true c32
                                    clear c32
                                    by_cases c33 : (wrap64 (((rd_T25 t147 x9_2).f1) - ((rd_T25 t147 x9_2).f0))) > 1
                                    · rw [if_pos c33] at H
                                      have c33b0 : decide (1 < (wrap64 (((rd_T25 t147 x9_2).f1) - ((rd_T25 t147 x9_2).f0)))) = true := decide_eq_true c33
                                      clear c33
                                      obtain rfl := Option.some.inj H
                                      have p164 : 0 ≤ (x9_2 : Int) := of_decide_eq_true (by first | (with_reducible assumption) | assumption)
                                      have q164 : x9_2 < (t147.length : Int) := of_decide_eq_true (by first | (with_reducible assumption) | assumption)
                                      obtain ⟨ad164, e164, hx164_0, hx164_1⟩ := at_T25 (Kd.R_reads' HO_6.out).2.2 x9_2 p164 q164
                                      obtain rfl : ad161 = ad164 := (by injection e164)
                                      replace p164 := eq_true p164
                                      replace q164 := eq_true q164
                                      go_wp2
                                      go_ret
                                      exact ⟨by first | rfl | (simp [errW_none, errW_some] <;> rfl) | (simp [*, errW_none, errW_some] <;> rfl), by repeat (first | (with_reducible first | exact HB.out | apply below_alloc | apply pw_below_drewN | apply below_drew1) | exact HB.out)⟩
                                    · rw [if_neg c33] at H
                                      have c33b0 : decide (1 < (wrap64 (((rd_T25 t147 x9_2).f1) - ((rd_T25 t147 x9_2).f0)))) = false := decide_eq_false c33
                                      clear c33
                                      by_cases c34 : ((rd_T25 t147 x9_2).f1) < (x0_1.length : Int)
                                      · rw [if_pos c34] at H
                                        have c34b0 : decide (((rd_T25 t147 x9_2).f1) < (x0_1.length : Int)) = true := decide_eq_true c34
                                        clear c34
                                        by_cases c35 : 0 ≤ ((rd_T25 t147 x9_2).f1)
                                        · rw [if_pos c35] at H
                                          have c35b0 : decide (0 ≤ ((rd_T25 t147 x9_2).f1)) = true := decide_eq_true c35
                                          clear c35
                                          by_cases c36 : (wrap64 (x10_4 + (rd x0_1 ((rd_T25 t147 x9_2).f1)))) ≤ (Go.bits .and .i64 a1 4095)
                                          · rw [if_pos c36] at H
                                            have c36b0 : decide ((wrap64 (x10_4 + (rd x0_1 ((rd_T25 t147 x9_2).f1)))) ≤ (Go.bits .and .i64 a1 4095)) = true := decide_eq_true c36
                                            clear c36
                                            obtain rfl := Option.some.inj H
                                            have p164 : 0 ≤ (x9_2 : Int) := of_decide_eq_true (by first | (with_reducible assumption) | assumption)
                                            have q164 : x9_2 < (t147.length : Int) := of_decide_eq_true (by first | (with_reducible assumption) | assumption)
                                            obtain ⟨ad164, e164, hx164_0, hx164_1⟩ := at_T25 (Kd.R_reads' HO_6.out).2.2 x9_2 p164 q164
                                            obtain rfl : ad161 = ad164 := (by injection e164)
                                            replace p164 := eq_true p164
                                            replace q164 := eq_true q164
                                            have p165 : 0 ≤ (((rd_T25 t147 x9_2).f1) : Int) := of_decide_eq_true (by first | (with_reducible assumption) | assumption)
                                            have q165 : ((rd_T25 t147 x9_2).f1) < (x0_1.length : Int) := of_decide_eq_true (by first | (with_reducible assumption) | assumption)
                                            obtain ⟨ad165, e165, hx165_0⟩ := Kd.at_int (Kd.R_reads' HO_0.out).2.2 ((rd_T25 t147 x9_2).f1) p165 q165
                                            cases e165
                                            replace p165 := eq_true p165
                                            replace q165 := eq_true q165
                                            go_wp2
                                            go_ret
                                            exact ⟨by first | rfl | (simp [errW_none, errW_some] <;> rfl) | (simp [*, errW_none, errW_some] <;> rfl), by repeat (first | (with_reducible first | exact HB.out | apply below_alloc | apply pw_below_drewN | apply below_drew1) | exact HB.out)⟩
                                          · rw [if_neg c36] at H
                                            have c36b0 : decide ((wrap64 (x10_4 + (rd x0_1 ((rd_T25 t147 x9_2).f1)))) ≤ (Go.bits .and .i64 a1 4095)) = false := decide_eq_false c36
                                            clear c36
                                            have H' := Aside0.mk H
                                            clear H
                                            have p164 : 0 ≤ (x9_2 : Int) := of_decide_eq_true (by first | (with_reducible assumption) | assumption)
                                            have q164 : x9_2 < (t147.length : Int) := of_decide_eq_true (by first | (with_reducible assumption) | assumption)
                                            obtain ⟨ad164, e164, hx164_0, hx164_1⟩ := at_T25 (Kd.R_reads' HO_6.out).2.2 x9_2 p164 q164
                                            obtain rfl : ad161 = ad164 := (by injection e164)
                                            replace p164 := eq_true p164
                                            replace q164 := eq_true q164
                                            have p165 : 0 ≤ (((rd_T25 t147 x9_2).f1) : Int) := of_decide_eq_true (by first | (with_reducible assumption) | assumption)
                                            have q165 : ((rd_T25 t147 x9_2).f1) < (x0_1.length : Int) := of_decide_eq_true (by first | (with_reducible assumption) | assumption)
                                            obtain ⟨ad165, e165, hx165_0⟩ := Kd.at_int (Kd.R_reads' HO_0.out).2.2 ((rd_T25 t147 x9_2).f1) p165 q165
                                            cases e165
                                            replace p165 := eq_true p165
                                            replace q165 := eq_true q165
                                            go_wp2
                                            go_roundg k4
                                            case measure => have := HK1.out; have := HK2.out; have := HJ18.out; have := HK4.out; omega
                                            case rel => exact ⟨(((rd_T25 t147 x9_2).f1)), (wrap64 (x9_2 + 1)), (by first | rfl | (simp; done) | (simp [*]; done)), (by first | rfl | (simp; done) | (simp [*]; done)), H', ⟨by have := HK1.out; have := HK2.out; have := HJ18.out; have := HK4.out; omega⟩, ⟨by (with_reducible repeat (first | apply Kd.R_alloc | apply Kd.R_drewN | apply Kd.R_drew)); exact HO_0.out⟩, ⟨by (with_reducible repeat (first | apply Kd.R_alloc | apply Kd.R_drewN | apply Kd.R_drew)); exact HO_6.out⟩, ⟨by (with_reducible repeat (first | apply Kd.R_alloc | apply Kd.R_drewN | apply Kd.R_drew)); exact HO_7.out⟩, ⟨by repeat (first | (with_reducible first | exact HB.out | apply below_alloc | apply pw_below_drewN | apply below_drew1) | exact HB.out)⟩⟩
                                        · rw [if_neg c35] at H
                                          exact absurd H (by simp)
                                      · rw [if_neg c34] at H
                                        have c34b0 : decide (((rd_T25 t147 x9_2).f1) < (x0_1.length : Int)) = false := decide_eq_false c34
                                        clear c34
                                        have H' := Aside0.mk H
                                        clear H
                                        have p164 : 0 ≤ (x9_2 : Int) := of_decide_eq_true (by first | (with_reducible assumption) | assumption)
                                        have q164 : x9_2 < (t147.length : Int) := of_decide_eq_true (by first | (with_reducible assumption) | assumption)
                                        obtain ⟨ad164, e164, hx164_0, hx164_1⟩ := at_T25 (Kd.R_reads' HO_6.out).2.2 x9_2 p164 q164
                                        obtain rfl : ad161 = ad164 := (by injection e164)
                                        replace p164 := eq_true p164
                                        replace q164 := eq_true q164
                                        go_wp2
                                        go_roundg k4
                                        case measure => have := HK1.out; have := HK2.out; have := HJ18.out; have := HK4.out; omega
                                        case rel => exact ⟨(((rd_T25 t147 x9_2).f1)), (wrap64 (x9_2 + 1)), (by first | rfl | (simp; done) | (simp [*]; done)), (by first | rfl | (simp; done) | (simp [*]; done)), H', ⟨by have := HK1.out; have := HK2.out; have := HJ18.out; have := HK4.out; omega⟩, ⟨by (with_reducible repeat (first | apply Kd.R_alloc | apply Kd.R_drewN | apply Kd.R_drew)); exact HO_0.out⟩, ⟨by (with_reducible repeat (first | apply Kd.R_alloc | apply Kd.R_drewN | apply Kd.R_drew)); exact HO_6.out⟩, ⟨by (with_reducible repeat (first | apply Kd.R_alloc | apply Kd.R_drewN | apply Kd.R_drew)); exact HO_7.out⟩, ⟨by repeat (first | (with_reducible first | exact HB.out | apply below_alloc | apply pw_below_drewN | apply below_drew1) | exact HB.out)⟩⟩
                                  · rw [if_neg c32] at H
                                    exact absurd H (by simp)
                                · rw [if_neg c31] at H
                                  exact absurd H (by simp)
                              · rw [if_neg c30] at H
                                have c30b0 : decide ((Go.bits .and .i64 a1 4095) < x10_4) = false := decide_eq_false c30
                                clear c30
                                by_cases c37 : ((rd_T25 t147 x9_2).f1) < (x0_1.length : Int)
                                · rw [if_pos c37] at H
                                  have c37b0 : decide (((rd_T25 t147 x9_2).f1) < (x0_1.length : Int)) = true := decide_eq_true c37
                                  clear c37
                                  by_cases c38 : 0 ≤ ((rd_T25 t147 x9_2).f1)
                                  · rw [if_pos c38] at H
                                    have c38b0 : decide (0 ≤ ((rd_T25 t147 x9_2).f1)) = true := decide_eq_true c38
                                    clear c38
                                    by_cases c39 : (wrap64 (x10_4 + (rd x0_1 ((rd_T25 t147 x9_2).f1)))) ≤ (Go.bits .and .i64 a1 4095)
                                    · rw [if_pos c39] at H
                                      have c39b0 : decide ((wrap64 (x10_4 + (rd x0_1 ((rd_T25 t147 x9_2).f1)))) ≤ (Go.bits .and .i64 a1 4095)) = true := decide_eq_true c39
                                      clear c39
                                      obtain rfl := Option.some.inj H
                                      have p166 : 0 ≤ (((rd_T25 t147 x9_2).f1) : Int) := of_decide_eq_true (by first | (with_reducible assumption) | assumption)
                                      have q166 : ((rd_T25 t147 x9_2).f1) < (x0_1.length : Int) := of_decide_eq_true (by first | (with_reducible assumption) | assumption)
                                      obtain ⟨ad166, e166, hx166_0⟩ := Kd.at_int (Kd.R_reads' HO_0.out).2.2 ((rd_T25 t147 x9_2).f1) p166 q166
                                      cases e166
                                      replace p166 := eq_true p166
                                      replace q166 := eq_true q166
                                      go_wp2
                                      go_ret
                                      exact ⟨by first | rfl | (simp [errW_none, errW_some] <;> rfl) | (simp [*, errW_none, errW_some] <;> rfl), by repeat (first | (with_reducible first | exact HB.out | apply below_alloc | apply pw_below_drewN | apply below_drew1) | exact HB.out)⟩
                                    · rw [if_neg c39] at H
                                      have c39b0 : decide ((wrap64 (x10_4 + (rd x0_1 ((rd_T25 t147 x9_2).f1)))) ≤ (Go.bits .and .i64 a1 4095)) = false := decide_eq_false c39
                                      clear c39
                                      have H' := Aside0.mk H
                                      clear H
                                      have p166 : 0 ≤ (((rd_T25 t147 x9_2).f1) : Int) := of_decide_eq_true (by first | (with_reducible assumption) | assumption)
                                      have q166 : ((rd_T25 t147 x9_2).f1) < (x0_1.length : Int) := of_decide_eq_true (by first | (with_reducible assumption) | assumption)
                                      obtain ⟨ad166, e166, hx166_0⟩ := Kd.at_int (Kd.R_reads' HO_0.out).2.2 ((rd_T25 t147 x9_2).f1) p166 q166
                                      cases e166
                                      replace p166 := eq_true p166
                                      replace q166 := eq_true q166
                                      go_wp2
                                      go_roundg k4
                                      case measure => have := HK1.out; have := HK2.out; have := HJ18.out; have := HK4.out; omega
                                      case rel => exact ⟨(((rd_T25 t147 x9_2).f1)), (wrap64 (x9_2 + 1)), (by first | rfl | (simp; done) | (simp [*]; done)), (by first | rfl | (simp; done) | (simp [*]; done)), H', ⟨by have := HK1.out; have := HK2.out; have := HJ18.out; have := HK4.out; omega⟩, ⟨by (with_reducible repeat (first | apply Kd.R_alloc | apply Kd.R_drewN | apply Kd.R_drew)); exact HO_0.out⟩, ⟨by (with_reducible repeat (first | apply Kd.R_alloc | apply Kd.R_drewN | apply Kd.R_drew)); exact HO_6.out⟩, ⟨by (with_reducible repeat (first | apply Kd.R_alloc | apply Kd.R_drewN | apply Kd.R_drew)); exact HO_7.out⟩, ⟨by repeat (first | (with_reducible first | exact HB.out | apply below_alloc | apply pw_below_drewN | apply below_drew1) | exact HB.out)⟩⟩
                                  · rw [if_neg c38] at H
                                    exact absurd H (by simp)
                                · rw [if_neg c37] at H
                                  have c37b0 : decide (((rd_T25 t147 x9_2).f1) < (x0_1.length : Int)) = false := decide_eq_false c37
                                  clear c37
                                  have H' := Aside0.mk H
                                  clear H
                                  go_wp2
                                  go_roundg k4
                                  case measure => have := HK1.out; have := HK2.out; have := HJ18.out; have := HK4.out; omega
                                  case rel => exact ⟨(((rd_T25 t147 x9_2).f1)), (wrap64 (x9_2 + 1)), (by first | rfl | (simp; done) | (simp [*]; done)), (by first | rfl | (simp; done) | (simp [*]; done)), H', ⟨by have := HK1.out; have := HK2.out; have := HJ18.out; have := HK4.out; omega⟩, ⟨by (with_reducible repeat (first | apply Kd.R_alloc | apply Kd.R_drewN | apply Kd.R_drew)); exact HO_0.out⟩, ⟨by (with_reducible repeat (first | apply Kd.R_alloc | apply Kd.R_drewN | apply Kd.R_drew)); exact HO_6.out⟩, ⟨by (with_reducible repeat (first | apply Kd.R_alloc | apply Kd.R_drewN | apply Kd.R_drew)); exact HO_7.out⟩, ⟨by repeat (first | (with_reducible first | exact HB.out | apply below_alloc | apply pw_below_drewN | apply below_drew1) | exact HB.out)⟩⟩
                      · rw [if_neg c26] at H
                        exact absurd H (by simp)
                    · rw [if_neg c25] at H
                      exact absurd H (by simp)
            · rw [if_neg c18] at H
              have c18b0 : decide (x9_2 < (t147.length : Int)) = false := decide_eq_false c18
              clear c18
              by_cases c40 : x8_2 = (x0_1.length : Int)
              · rw [if_pos c40] at H
                have c40b0 : (x8_2 == (x0_1.length : Int)) = true := beq_iff_eq.mpr c40
                have c40b1 : (x8_2 != (x0_1.length : Int)) = false := bne_eq_false_iff_eq.mpr c40
                clear c40
                by_cases c41 : (x0_1.length : Int) = 0
                · rw [if_pos c41] at H
                  have c41b0 : ((x0_1.length : Int) == 0) = true := beq_iff_eq.mpr c41
                  have c41b1 : ((x0_1.length : Int) != 0) = false := bne_eq_false_iff_eq.mpr c41
                  clear c41
                  by_cases c42 : (t150.length : Int) = 0
                  · rw [if_pos c42] at H
                    have c42b0 : ((t150.length : Int) == 0) = true := beq_iff_eq.mpr c42
                    have c42b1 : ((t150.length : Int) != 0) = false := bne_eq_false_iff_eq.mpr c42
                    clear c42
                    replace H := Option.bind_eq_some_iff.mp H
                    obtain ⟨t153, A430, H⟩ := H
                    replace H : (some t153) = some r := H
                    have A43 := Aside0.mk A430
                    clear A430
                    obtain rfl := Option.some.inj H
                    obtain ⟨Ao44, co44, eo44⟩ := Kd.R_slice HO_6.out
                    subst eo44
                    obtain ⟨Ao45, co45, eo45⟩ := Kd.R_slice HO_7.out
                    subst eo45
                    go_wp2_with (first | (go_at_call 15; (with_reducible refine (quoinlaw17_awake.calls k2  t153 _ A43.out).mono ?_); rintro e w46 ⟨rfl, hb⟩; have n0_ := Aside0.mk (Kd.R_below (by (with_reducible repeat (first | apply Kd.R_alloc | apply Kd.R_drewN | apply Kd.R_drew)); exact HO_0.out) hb); have n1_ := Aside0.mk (Kd.R_below (by (with_reducible repeat (first | apply Kd.R_alloc | apply Kd.R_drewN | apply Kd.R_drew)); exact HO_6.out) hb); have n2_ := Aside0.mk (Kd.R_below (by (with_reducible repeat (first | apply Kd.R_alloc | apply Kd.R_drewN | apply Kd.R_drew)); exact HO_7.out) hb); have n3_ := Aside0.mk (below_step (by repeat (first | (with_reducible first | exact HB.out | apply below_alloc | apply pw_below_drewN | apply below_drew1) | exact HB.out)) hb); clear HO_0; clear HO_6; clear HO_7; clear HB; have HO_0 := n0_; have HO_6 := n1_; have HO_7 := n2_; have HB := n3_; clear n0_ n1_ n2_ n3_; (try clear hb); (try clear hb2); (try clear hk); (try clear hi)))
                    go_ret
                    exact ⟨by first | rfl | (simp [errW_none, errW_some] <;> rfl) | (simp [*, errW_none, errW_some] <;> rfl), by repeat (first | (with_reducible first | exact HB.out | apply below_alloc | apply pw_below_drewN | apply below_drew1) | exact HB.out)⟩
                  · rw [if_neg c42] at H
                    have c42b0 : ((t150.length : Int) == 0) = false := beq_eq_false_iff_ne.mpr c42
                    have c42b1 : ((t150.length : Int) != 0) = true := bne_iff_ne.mpr c42
                    have c42b2 : ¬ (t150 = []) := fun h_ => c42 (by rw [h_]; rfl)
                    by_cases c47 : (t150.length : Int) = 1
                    · rw [if_pos c47] at H
                      have c47b0 : ((t150.length : Int) == 1) = true := beq_iff_eq.mpr c47
                      have c47b1 : ((t150.length : Int) != 1) = false := bne_eq_false_iff_eq.mpr c47
                      clear c47
                      by_cases c48 : 0 < (t150.length : Int)
                      · rw [if_pos c48] at H
                        have c48b0 : decide (0 < (t150.length : Int)) = true := decide_eq_true c48
                        have c48b1 : decide (0 < t150.length) = true := decide_eq_true (by omega)
                        clear c48
                        by_cases c49 : (((rd_T25 t150 0).f0) == 0 && (((rd_T25 t150 0).f1) == (x0_1.length : Int))) = true
                        · rw [if_pos c49] at H
                          have c49b0 : (((rd_T25 t150 0).f0) == 0 && (((rd_T25 t150 0).f1) == (x0_1.length : Int))) = true := c49
                          (try (have c49b1 : decide (((rd_T25 t150 0).f0) = 0 && (((rd_T25 t150 0).f1) == (x0_1.length : Int))) = true := by simpa using c49))
                          (try (have c49b2 : (((rd_T25 t150 0).f0) == 0 && (((rd_T25 t150 0).f1) == (x0_1.length : Int))) = true := by simpa using c49))
                          clear c49
                          replace H := Option.bind_eq_some_iff.mp H
                          obtain ⟨t155, A500, H⟩ := H
                          replace H : (some t155) = some r := H
                          have A50 := Aside0.mk A500
                          clear A500
                          obtain rfl := Option.some.inj H
                          obtain ⟨Ao51, co51, eo51⟩ := Kd.R_slice HO_6.out
                          subst eo51
                          obtain ⟨Ao52, co52, eo52⟩ := Kd.R_slice HO_7.out
                          subst eo52
                          have p154 : 0 ≤ (0 : Int) := (by omega)
                          have q154 : 0 < (t150.length : Int) := of_decide_eq_true (by first | (with_reducible assumption) | assumption)
                          obtain ⟨ad154, e154, hx154_0, hx154_1⟩ := at_T25 (Kd.R_reads' HO_7.out).2.2 0 p154 q154
                          cases e154
                          have qi154 : (0 < t150.length) = True := eq_true (by omega)
                          (try rw [show ((0 : Int)).toNat = 0 from rfl] at hx154_0)
                          (try rw [show 0 * 2 = 0 from rfl] at hx154_0)
                          (try rw [Addr.add_zero'] at hx154_0)
                          (try rw [show ((0 : Int)).toNat = 0 from rfl] at hx154_1)
                          (try rw [show 0 * 2 = 0 from rfl] at hx154_1)
                          (try rw [Addr.add_zero'] at hx154_1)
                          replace p154 := eq_true p154
                          replace q154 := eq_true q154
                          go_wp2_with (first | (go_at_call 15; (with_reducible refine (quoinlaw17_awake.calls k2  t155 _ A50.out).mono ?_); rintro e w53 ⟨rfl, hb⟩; have n0_ := Aside0.mk (Kd.R_below (by (with_reducible repeat (first | apply Kd.R_alloc | apply Kd.R_drewN | apply Kd.R_drew)); exact HO_0.out) hb); have n1_ := Aside0.mk (Kd.R_below (by (with_reducible repeat (first | apply Kd.R_alloc | apply Kd.R_drewN | apply Kd.R_drew)); exact HO_6.out) hb); have n2_ := Aside0.mk (Kd.R_below (by (with_reducible repeat (first | apply Kd.R_alloc | apply Kd.R_drewN | apply Kd.R_drew)); exact HO_7.out) hb); have n3_ := Aside0.mk (below_step (by repeat (first | (with_reducible first | exact HB.out | apply below_alloc | apply pw_below_drewN | apply below_drew1) | exact HB.out)) hb); clear HO_0; clear HO_6; clear HO_7; clear HB; have HO_0 := n0_; have HO_6 := n1_; have HO_7 := n2_; have HB := n3_; clear n0_ n1_ n2_ n3_; (try clear hb); (try clear hb2); (try clear hk); (try clear hi)))
                          go_ret
                          exact ⟨by first | rfl | (simp [errW_none, errW_some] <;> rfl) | (simp [*, errW_none, errW_some] <;> rfl), by repeat (first | (with_reducible first | exact HB.out | apply below_alloc | apply pw_below_drewN | apply below_drew1) | exact HB.out)⟩
                        · rw [if_neg c49] at H
                          have c49b0 : (((rd_T25 t150 0).f0) == 0 && (((rd_T25 t150 0).f1) == (x0_1.length : Int))) = false := by simpa using c49
                          (try (have c49b1 : decide (((rd_T25 t150 0).f0) = 0 && (((rd_T25 t150 0).f1) == (x0_1.length : Int))) = false := by simpa using c49))
                          (try (have c49b2 : (((rd_T25 t150 0).f0) == 0 && (((rd_T25 t150 0).f1) == (x0_1.length : Int))) = false := by simpa using c49))
                          (try (have c49b3 : ¬ (((rd_T25 t150 0).f0) = 0 && (((rd_T25 t150 0).f1) == (x0_1.length : Int))) := by simpa using c49))
                          clear c49
                          obtain rfl := Option.some.inj H
                          obtain ⟨Ao54, co54, eo54⟩ := Kd.R_slice HO_6.out
                          subst eo54
                          obtain ⟨Ao55, co55, eo55⟩ := Kd.R_slice HO_7.out
                          subst eo55
                          have p154 : 0 ≤ (0 : Int) := (by omega)
                          have q154 : 0 < (t150.length : Int) := of_decide_eq_true (by first | (with_reducible assumption) | assumption)
                          obtain ⟨ad154, e154, hx154_0, hx154_1⟩ := at_T25 (Kd.R_reads' HO_7.out).2.2 0 p154 q154
                          cases e154
                          have qi154 : (0 < t150.length) = True := eq_true (by omega)
                          (try rw [show ((0 : Int)).toNat = 0 from rfl] at hx154_0)
                          (try rw [show 0 * 2 = 0 from rfl] at hx154_0)
                          (try rw [Addr.add_zero'] at hx154_0)
                          (try rw [show ((0 : Int)).toNat = 0 from rfl] at hx154_1)
                          (try rw [show 0 * 2 = 0 from rfl] at hx154_1)
                          (try rw [Addr.add_zero'] at hx154_1)
                          replace p154 := eq_true p154
                          replace q154 := eq_true q154
                          go_wp2
                          go_ret
                          exact ⟨by first | rfl | (simp [errW_none, errW_some] <;> rfl) | (simp [*, errW_none, errW_some] <;> rfl), by repeat (first | (with_reducible first | exact HB.out | apply below_alloc | apply pw_below_drewN | apply below_drew1) | exact HB.out)⟩
                      · rw [if_neg c48] at H
                        exact absurd H (by simp)
                    · rw [if_neg c47] at H
                      have c47b0 : ((t150.length : Int) == 1) = false := beq_eq_false_iff_ne.mpr c47
                      have c47b1 : ((t150.length : Int) != 1) = true := bne_iff_ne.mpr c47
                      obtain rfl := Option.some.inj H
                      obtain ⟨Ao56, co56, eo56⟩ := Kd.R_slice HO_6.out
                      subst eo56
                      obtain ⟨Ao57, co57, eo57⟩ := Kd.R_slice HO_7.out
                      subst eo57
                      go_wp2
                      go_ret
                      exact ⟨by first | rfl | (simp [errW_none, errW_some] <;> rfl) | (simp [*, errW_none, errW_some] <;> rfl), by repeat (first | (with_reducible first | exact HB.out | apply below_alloc | apply pw_below_drewN | apply below_drew1) | exact HB.out)⟩
                · rw [if_neg c41] at H
                  have c41b0 : ((x0_1.length : Int) == 0) = false := beq_eq_false_iff_ne.mpr c41
                  have c41b1 : ((x0_1.length : Int) != 0) = true := bne_iff_ne.mpr c41
                  have c41b2 : ¬ (x0_1 = []) := fun h_ => c41 (by rw [h_]; rfl)
                  by_cases c58 : (t150.length : Int) = 1
                  · rw [if_pos c58] at H
                    have c58b0 : ((t150.length : Int) == 1) = true := beq_iff_eq.mpr c58
                    have c58b1 : ((t150.length : Int) != 1) = false := bne_eq_false_iff_eq.mpr c58
                    clear c58
                    by_cases c59 : 0 < (t150.length : Int)
                    · rw [if_pos c59] at H
                      have c59b0 : decide (0 < (t150.length : Int)) = true := decide_eq_true c59
                      have c59b1 : decide (0 < t150.length) = true := decide_eq_true (by omega)
                      clear c59
                      by_cases c60 : (((rd_T25 t150 0).f0) == 0 && (((rd_T25 t150 0).f1) == (x0_1.length : Int))) = true
                      · rw [if_pos c60] at H
                        have c60b0 : (((rd_T25 t150 0).f0) == 0 && (((rd_T25 t150 0).f1) == (x0_1.length : Int))) = true := c60
                        (try (have c60b1 : decide (((rd_T25 t150 0).f0) = 0 && (((rd_T25 t150 0).f1) == (x0_1.length : Int))) = true := by simpa using c60))
                        (try (have c60b2 : (((rd_T25 t150 0).f0) == 0 && (((rd_T25 t150 0).f1) == (x0_1.length : Int))) = true := by simpa using c60))
                        clear c60
                        replace H := Option.bind_eq_some_iff.mp H
                        obtain ⟨t157, A610, H⟩ := H
                        replace H : (some t157) = some r := H
                        have A61 := Aside0.mk A610
                        clear A610
                        obtain rfl := Option.some.inj H
                        obtain ⟨Ao62, co62, eo62⟩ := Kd.R_slice HO_6.out
                        subst eo62
                        obtain ⟨Ao63, co63, eo63⟩ := Kd.R_slice HO_7.out
                        subst eo63
                        have p156 : 0 ≤ (0 : Int) := (by omega)
                        have q156 : 0 < (t150.length : Int) := of_decide_eq_true (by first | (with_reducible assumption) | assumption)
                        obtain ⟨ad156, e156, hx156_0, hx156_1⟩ := at_T25 (Kd.R_reads' HO_7.out).2.2 0 p156 q156
                        cases e156
                        have qi156 : (0 < t150.length) = True := eq_true (by omega)
                        (try rw [show ((0 : Int)).toNat = 0 from rfl] at hx156_0)
                        (try rw [show 0 * 2 = 0 from rfl] at hx156_0)
                        (try rw [Addr.add_zero'] at hx156_0)
                        (try rw [show ((0 : Int)).toNat = 0 from rfl] at hx156_1)
                        (try rw [show 0 * 2 = 0 from rfl] at hx156_1)
                        (try rw [Addr.add_zero'] at hx156_1)
                        replace p156 := eq_true p156
                        replace q156 := eq_true q156
                        go_wp2_with (first | (go_at_call 15; (with_reducible refine (quoinlaw17_awake.calls k2  t157 _ A61.out).mono ?_); rintro e w64 ⟨rfl, hb⟩; have n0_ := Aside0.mk (Kd.R_below (by (with_reducible repeat (first | apply Kd.R_alloc | apply Kd.R_drewN | apply Kd.R_drew)); exact HO_0.out) hb); have n1_ := Aside0.mk (Kd.R_below (by (with_reducible repeat (first | apply Kd.R_alloc | apply Kd.R_drewN | apply Kd.R_drew)); exact HO_6.out) hb); have n2_ := Aside0.mk (Kd.R_below (by (with_reducible repeat (first | apply Kd.R_alloc | apply Kd.R_drewN | apply Kd.R_drew)); exact HO_7.out) hb); have n3_ := Aside0.mk (below_step (by repeat (first | (with_reducible first | exact HB.out | apply below_alloc | apply pw_below_drewN | apply below_drew1) | exact HB.out)) hb); clear HO_0; clear HO_6; clear HO_7; clear HB; have HO_0 := n0_; have HO_6 := n1_; have HO_7 := n2_; have HB := n3_; clear n0_ n1_ n2_ n3_; (try clear hb); (try clear hb2); (try clear hk); (try clear hi)))
                        go_ret
                        exact ⟨by first | rfl | (simp [errW_none, errW_some] <;> rfl) | (simp [*, errW_none, errW_some] <;> rfl), by repeat (first | (with_reducible first | exact HB.out | apply below_alloc | apply pw_below_drewN | apply below_drew1) | exact HB.out)⟩
                      · rw [if_neg c60] at H
                        have c60b0 : (((rd_T25 t150 0).f0) == 0 && (((rd_T25 t150 0).f1) == (x0_1.length : Int))) = false := by simpa using c60
                        (try (have c60b1 : decide (((rd_T25 t150 0).f0) = 0 && (((rd_T25 t150 0).f1) == (x0_1.length : Int))) = false := by simpa using c60))
                        (try (have c60b2 : (((rd_T25 t150 0).f0) == 0 && (((rd_T25 t150 0).f1) == (x0_1.length : Int))) = false := by simpa using c60))
                        (try (have c60b3 : ¬ (((rd_T25 t150 0).f0) = 0 && (((rd_T25 t150 0).f1) == (x0_1.length : Int))) := by simpa using c60))
                        clear c60
                        obtain rfl := Option.some.inj H
                        obtain ⟨Ao65, co65, eo65⟩ := Kd.R_slice HO_6.out
                        subst eo65
                        obtain ⟨Ao66, co66, eo66⟩ := Kd.R_slice HO_7.out
                        subst eo66
                        have p156 : 0 ≤ (0 : Int) := (by omega)
                        have q156 : 0 < (t150.length : Int) := of_decide_eq_true (by first | (with_reducible assumption) | assumption)
                        obtain ⟨ad156, e156, hx156_0, hx156_1⟩ := at_T25 (Kd.R_reads' HO_7.out).2.2 0 p156 q156
                        cases e156
                        have qi156 : (0 < t150.length) = True := eq_true (by omega)
                        (try rw [show ((0 : Int)).toNat = 0 from rfl] at hx156_0)
                        (try rw [show 0 * 2 = 0 from rfl] at hx156_0)
                        (try rw [Addr.add_zero'] at hx156_0)
                        (try rw [show ((0 : Int)).toNat = 0 from rfl] at hx156_1)
                        (try rw [show 0 * 2 = 0 from rfl] at hx156_1)
                        (try rw [Addr.add_zero'] at hx156_1)
                        replace p156 := eq_true p156
                        replace q156 := eq_true q156
                        go_wp2
                        go_ret
                        exact ⟨by first | rfl | (simp [errW_none, errW_some] <;> rfl) | (simp [*, errW_none, errW_some] <;> rfl), by repeat (first | (with_reducible first | exact HB.out | apply below_alloc | apply pw_below_drewN | apply below_drew1) | exact HB.out)⟩
                    · rw [if_neg c59] at H
                      exact absurd H (by simp)
                  · rw [if_neg c58] at H
                    have c58b0 : ((t150.length : Int) == 1) = false := beq_eq_false_iff_ne.mpr c58
                    have c58b1 : ((t150.length : Int) != 1) = true := bne_iff_ne.mpr c58
                    obtain rfl := Option.some.inj H
                    obtain ⟨Ao67, co67, eo67⟩ := Kd.R_slice HO_6.out
                    subst eo67
                    obtain ⟨Ao68, co68, eo68⟩ := Kd.R_slice HO_7.out
                    subst eo68
                    go_wp2
                    go_ret
                    exact ⟨by first | rfl | (simp [errW_none, errW_some] <;> rfl) | (simp [*, errW_none, errW_some] <;> rfl), by repeat (first | (with_reducible first | exact HB.out | apply below_alloc | apply pw_below_drewN | apply below_drew1) | exact HB.out)⟩
              · rw [if_neg c40] at H
                have c40b0 : (x8_2 == (x0_1.length : Int)) = false := beq_eq_false_iff_ne.mpr c40
                have c40b1 : (x8_2 != (x0_1.length : Int)) = true := bne_iff_ne.mpr c40
                obtain rfl := Option.some.inj H
                obtain ⟨Ao69, co69, eo69⟩ := Kd.R_slice HO_6.out
                subst eo69
                go_wp2
                go_ret
                exact ⟨by first | rfl | (simp [errW_none, errW_some] <;> rfl) | (simp [*, errW_none, errW_some] <;> rfl), by repeat (first | (with_reducible first | exact HB.out | apply below_alloc | apply pw_below_drewN | apply below_drew1) | exact HB.out)⟩

/-- THE ONE PURE STATEMENT of quoinlaw17_CollLines: yours. -/
def quoinlaw17_CollLines.Pure : Prop := ∀ (l0 : List Int) (a1 : Int), l0.length ≤ maxLen → l0.length * 8 ≤ 140737488351232 → (∀ x ∈ l0, (Lit.int .i64 x).wf = true) → (Lit.int .i64 a1).wf = true → ∃ k, quoinlaw17_CollLines.f k l0 a1 = some true
theorem quoinlaw17_CollLines.walk (P : quoinlaw17_CollLines.Pure) (a0 : Option Addr) (len0 cap0 : Nat) (z0 : List Int) (a1 : Int) (w : World) (w0 : (a0 = none ∧ len0 = 0 ∧ cap0 = 0 ∧ z0 = []) ∨ ∃ x, a0 = some x ∧ len0 ≤ cap0 ∧ cap0 ≤ maxLen ∧ z0.length = cap0 ∧ (∀ i, i < z0.length → w.cell? (x.add i) = some (.int .i64 (z0.getD i 0))) ∧ ∀ n ∈ z0, (Lit.int .i64 n).wf = true) (y0 : len0 * 8 ≤ 140737488351232) (w1 : (Lit.int .i64 a1).wf = true) :
    Calls Try.prog 6 #[.slice a0 len0 cap0, .int .i64 a1] w fun e w' => e = .returned (.bool true) ∧ Below w.heap.size w w' := by
  obtain ⟨l0, rfl, hr0, hm0, hw0, hc0⟩ := ReadsInt.ofRowC w0
  obtain ⟨k, h⟩ := P l0 a1 hm0 y0 hw0 w1
  refine (quoinlaw17_CollLines.calls k _ _ l0 a1 true w (Kd.C_of_reads (d := (0 : Int)) (h1 := fun _ => rfl) hr0) hc0 h).mono ?_
  rintro e w' ⟨rfl, hd⟩
  exact ⟨rfl, hd⟩

end Go.Proofs.Ytlcghlcpngafgaa.PCollLines
