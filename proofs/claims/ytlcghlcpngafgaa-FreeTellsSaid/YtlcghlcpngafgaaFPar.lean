/- The walk of (*free.solver).parts: what the others get of what is left. Memory that was there is as it was. -/
import Derived.Test.YtlcghlcpngafgaaFSt
import Derived.Outline
import Derived.Deep.QuietTactic
import Derived.BigQuiet
import Derived.Deep.LoopGhost
import Derived.RowKit3
namespace Go.Proofs.Ytlcghlcpngafgaa.PFree
open Go.RowKit Go.Proofs.YtlcghlcpngafgaaW.PrintWords Go.Proofs.YtlcghlcpngafgaaW.PrintLast Go.Proofs.YtlcghlcpngafgaaW.PrintMore
set_option linter.unusedVariables false
set_option linter.unusedSimpArgs false

theorem w64 {x : Int} (h0 : -9223372036854775808 ≤ x) (h1 : x < 9223372036854775808) : wrap64 x = x := by unfold wrap64; omega
theorem wgt_bd {gr : Bool} {x : S39} (h : OkX x) : 0 ≤ wgt gr x ∧ wgt gr x ≤ 879609302220800 ∧ 0 ≤ x.f0 * x.f4 ∧ x.f0 * x.f4 ≤ 879609302220800 := by
  obtain ⟨a0, a1, a2, a3, a4, a5, a6, a7, a8, a9, a10, a11⟩ := h
  have e0 : 0 ≤ x.f0 * x.f4 := Int.mul_nonneg a0 a8
  have e1 : x.f0 * x.f4 ≤ 8796093022208 * 100 := Int.mul_le_mul a1 a9 a8 (by decide)
  unfold wgt
  split <;> omega
theorem weight_any {w0 W : World} {g : Nat} {A0 : Option Addr} {c0 : Nat} {l : List S39} {gr : Bool} {G cG F : Nat} {sz : Nat → Int} {fz : Nat → Bool} (hS : St w0 W g A0 c0 l gr G cG F sz fz) (hn : l.length ≤ 500) (x : S39) (hx : OkX x) :
    Calls Try.prog 45 #[.pointer (some ⟨g, 0, none⟩), .agg #[.int .i64 x.f0, .int .i64 x.f1, .int .i64 x.f2, .int .i64 x.f3, .int .i64 x.f4, .int .i64 x.f5]] W fun e w' => e = .returned (.int .i64 (wgt gr x)) ∧ Below W.heap.size W w' := by
  have hb := wgt_bd (gr := gr) hx
  refine (free_solver_weight.calls g l gr _ _ x.f0 x.f1 x.f2 x.f3 x.f4 x.f5 (wgt gr x) gr W W (hS.isS (by omega)) (Below.refl _ _) ?_).mono fun e w' h => ⟨h.1, h.2.2.1⟩
  unfold free_solver_weight.f wgt
  split
  · rfl
  · rw [w64 (by omega) (by omega)]

theorem share_at {k : Nat} {n : Int} {ws r : List Int} {base : Nat} {W : World} {v : Value} (h : unit_Share.f k n ws = some r) (hR : Kd.R (Kd.int .i64) 2 W base (fun _ => True) v ws) :
    ∀ A c, v = .slice A ws.length c → Calls Try.prog 46 #[.int .i64 n, .slice A ws.length c] W fun e w' => ∃ v0 : Value, e = .returned v0 ∧ Kd.R (Kd.int .i64) 2 w' W.heap.size (fun _ => True) v0 r ∧ Below W.heap.size W w' := by
  intro A c e
  subst e
  obtain ⟨A', c', e', hc, hC⟩ := Kd.R_reads hR
  cases e'
  exact unit_Share.calls k n A c ws r W hC hc h

set_option maxHeartbeats 4000000 in
set_option maxRecDepth 100000 in
theorem parts_calls (k : Nat) (w0 w : World) (g : Nat) (A0 : Option Addr) (c0 : Nat) (l : List S39) (gr : Bool) (G cG F : Nat) (sz : Nat → Int) (fz : Nat → Bool) (inner : Int) (r : List Int)
    (hS : St w0 w g A0 c0 l gr G cG F sz fz) (hn : l.length ≤ 500) (hok : ∀ x ∈ l, OkX x) (hsz : ∀ i, i < l.length → fz i = true → 0 ≤ sz i ∧ sz i ≤ 288230376151711744)
    (hb : ∀ i, i ≤ l.length → -1152921504606846976 ≤ inAt l sz fz inner i ∧ inAt l sz fz inner i ≤ 1152921504606846976)
    (h : unit_Share.f k (toS gr (inAt l sz fz inner l.length)) (wts l gr fz l.length) = some r) :
    Calls Try.prog 41 #[.pointer (some ⟨g, 0, none⟩), .int .i64 inner] w fun e w' => ∃ v : Value, e = .returned v ∧ Kd.R (Kd.int .i64) 2 w' w.heap.size (fun _ => True) v r ∧ Below w.heap.size w w' := by
  have HS := Lib.hid hS; have HH := Lib.hid h; have HOK := Lib.hid hok; have HSZ := Lib.hid hsz; have HBD := Lib.hid hb
  have HB := Lib.hid (Below.refl w.heap.size w)
  obtain ⟨q0, q1, q2, q3⟩ := hS.slv.cells
  clear hS h hok hsz hb
  have hu39 := Try.underlying39
  go_enter Try.func41, Try.ntmps41
  go_wp2
  go_loopg [1, 5, 13] l.length (fun gk v1 v5 v13 wr => ∃ i : Nat, v13 = .int .i64 (i : Int) ∧ i ≤ l.length ∧ l.length - i ≤ gk ∧ v1 = .int .i64 (inAt l sz fz inner i) ∧ Hid (Kd.R (Kd.int .i64) 2 wr w.heap.size (fun _ => True) v5 (wts l gr fz i)) ∧ Hid (Below w.heap.size w wr))
  case atStart => exact ⟨0, rfl, by omega, by omega, rfl, Kd.R_nil _ _ _ _ _, HB⟩
  case round =>
    clear HB q0 q1 q2 q3
    obtain ⟨i, rfl, hi, hk, rfl, HR, HB⟩ := hrel
    have HS1 := Lib.hid (HS.out.step HB.out)
    obtain ⟨q0, q1, q2, q3⟩ := HS1.out.slv.cells
    have b0 := HBD.out i hi
    by_cases hlt : i < l.length
    · have hd : decide ((i : Int) < ((l.length : Nat) : Int)) = true := decide_eq_true (by omega)
      have b1 := HBD.out (i + 1) (by omega)
      have hst : inAt l sz fz inner (i + 1) = inAt l sz fz inner i - (itm l i).f5 - (if fz i = true then sz i else (itm l i).f0) := rfl
      have HST := Lib.hid hst; clear hst
      obtain ⟨y0, y0', y1, y1', y2, y2', y3, y3', y4, y4', y5, y5'⟩ : OkX (itm l i) := HOK.out _ (by simp [itm, List.getD, hlt])
      have ci : (0 : Int) ≤ (i : Int) := by omega
      have ci' : (i : Int) < (l.length : Int) := by omega
      obtain ⟨ad, eA, x0, x1, x2, x3, x4, x5⟩ := at_T39 HS1.out.isS_items (i : Int) ci ci'
      rw [itm_T] at x0 x1 x2 x3 x4 x5
      cases eA
      rw [Int.toNat_natCast] at x0 x1 x2 x3 x4 x5
      have z0 := HS1.out.size.cell hlt
      have z1 := HS1.out.frozen.cell hlt
      have hwt : wts l gr fz (i + 1) = wts l gr fz i ++ [if fz i = true then 0 else wgt gr (itm l i)] := lst_succ _ _
      have hwl : (wts l gr fz i).length = i := lst_length _ _
      have HWT := Lib.hid hwt; have HWL := Lib.hid hwl; clear hwt hwl
      have HX := Lib.hid (show OkX (itm l i) from HOK.out _ (by simp [itm, List.getD, hlt]))
      obtain ⟨Ao, co, eo⟩ := Kd.R_slice HR.out
      subst eo
      generalize itm l i = x at *
      generalize inAt l sz fz inner i = u at *
      have hal := below_alloc (Below.refl wr.heap.size wr) (.cells #[.int .i64 x.f0, .int .i64 x.f1, .int .i64 x.f2, .int .i64 x.f3, .int .i64 x.f4, .int .i64 x.f5] 39 (0, 0))
      have HA := Lib.hid hal
      replace q1 := pw_cell_below hal q1
      replace q2 := pw_cell_below hal q2
      replace q3 := pw_cell_below hal q3
      replace z0 := pw_cell_below hal z0
      replace z1 := pw_cell_below hal z1
      clear hal q0
      by_cases hf : fz i = true
      · rw [hf] at z1
        rw [if_pos hf] at HST HWT
        have s0 := HSZ.out i hlt hf
        clear hf
        have HR1 := Lib.hid (Kd.R_below HR.out HA.out); have HB1 := Lib.hid (below_step HB.out HA.out); clear HR HB HA; have HR := HR1; have HB := HB1; clear HR1 HB1
        go_wp2_with (first | ((with_reducible refine gate_builtin (b := .append) (xs := #[.tmp 38, .tmp 39]) rfl ?_); at_builtin; refine Kd.R_append (Kd.int .i64) (w0 := w) (w.heap.size) rfl (.tmp 38) (.tmp 39) 22 2 (.int .i64 0) 8 rfl Try.underlying22 info2 rfl (by decide) (by decide) (.slice Ao (wts l gr fz i).length co) (wts l gr fz i) (0 : Int) [.int .i64 0] (fun _ => True) (fun _ => False) rfl ?aX ?aP (fun _ hk => hk.elim) ?aF ?aO ?aB ?aS ?aL ?_; (case aX => first | rfl | (go_simp; done) | (go_simp; rfl)); (case aP => exact rfl); (case aB => exact HB.out); (case aF => exact (fun _ _ => trivial)); (case aO => exact HR.out); (case aS => exact HB.out.size); (case aL => have := HWL.out; omega); intro v115 w8 ho hb hg hat; have n0_ := Lib.hid hb; have n1_ := Lib.hid ho; clear HB HR; clear ho hb hg hat))
        go_roundg (l.length - (i + 1))
        case measure => omega
        case rel => exact ⟨i + 1, by simp, by omega, by omega, by rw [HST.out], by rw [HWT.out]; exact n1_, n0_⟩
      · replace hf := Bool.eq_false_iff.mpr hf
        rw [hf] at z1
        rw [if_neg (by simp [hf])] at HST HWT
        clear hf
        have hwc := fun W' (hb : Below wr.heap.size wr W') => weight_any (HS1.out.step hb) hn x HX.out
        have HWC := Lib.hid hwc; clear hwc
        obtain ⟨g0, g1⟩ := (wgt_bd (gr := gr) HX.out).1, (wgt_bd (gr := gr) HX.out).2.1
        have HR1 := Lib.hid (Kd.R_below HR.out HA.out); have HB1 := Lib.hid (below_step HB.out HA.out); clear HR HB; have HR := HR1; have HB := HB1; clear HR1 HB1
        go_wp2_with (first | (go_at_call 45; (with_reducible refine (HWC.out _ HA.out).mono ?_); rintro e wn ⟨rfl, hb⟩; have HR1 := Lib.hid (Kd.R_below HR.out hb); have HB1 := Lib.hid (below_step HB.out hb); clear HR HB hb; have HR := HR1; have HB := HB1; clear HR1 HB1) | ((with_reducible refine gate_builtin (b := .append) (xs := #[.tmp 45, .tmp 49]) rfl ?_); at_builtin; refine Kd.R_append (Kd.int .i64) (w0 := w) (w.heap.size) rfl (.tmp 45) (.tmp 49) 22 2 (.int .i64 0) 8 rfl Try.underlying22 info2 rfl (by decide) (by decide) (.slice Ao (wts l gr fz i).length co) (wts l gr fz i) (wgt gr x) [.int .i64 (wgt gr x)] (fun _ => True) (fun _ => False) rfl ?aX ?aP (fun _ hk => hk.elim) ?aF ?aO ?aB ?aS ?aL ?_; (case aX => first | rfl | (go_simp; done) | (go_simp; rfl)); (case aP => exact rfl); (case aB => exact HB.out); (case aF => exact (fun _ _ => trivial)); (case aO => exact HR.out); (case aS => exact HB.out.size); (case aL => have := HWL.out; omega); intro v115 w8 ho hb hg hat; have n0_ := Lib.hid hb; have n1_ := Lib.hid ho; clear HB HR; clear ho hb hg hat))
        go_roundg (l.length - (i + 1))
        case measure => omega
        case rel => exact ⟨i + 1, by simp, by omega, by omega, by rw [HST.out], by rw [HWT.out]; exact n1_, n0_⟩
    · have hd : decide ((i : Int) < ((l.length : Nat) : Int)) = false := decide_eq_false (by omega)
      obtain rfl : i = l.length := by omega
      have HSH := Lib.hid (share_at HH.out HR.out)
      clear HH hlt hi hk
      obtain ⟨Ao, co, eo⟩ := Kd.R_slice HR.out
      subst eo
      generalize inAt l sz fz inner l.length = u at *
      clear HS HOK HSZ HBD
      cases gr with
      | true =>
        by_cases hu : 0 < u
        · have hu1 : decide (0 < u) = true := decide_eq_true hu
          have e1 : toS true u = u := by unfold toS; simp [hu]
          rw [e1] at HSH
          clear e1 hu HS1
          go_wp2_with (first | (go_at_call 46; (with_reducible refine (HSH.out _ _ rfl).mono ?_); rintro e wn ⟨v, rfl, hr, hb⟩; have HF := Lib.hid (Kd.R_lower hr HB.out.size); have HB1 := Lib.hid (below_step HB.out hb); clear hr hb))
          go_ret
          exact ⟨_, rfl, HF, HB1⟩
        · have hu1 : decide (0 < u) = false := decide_eq_false hu
          have e1 : toS true u = 0 := by unfold toS; simp [hu]
          rw [e1] at HSH
          clear e1 hu HS1
          go_wp2_with (first | (go_at_call 46; (with_reducible refine (HSH.out _ _ rfl).mono ?_); rintro e wn ⟨v, rfl, hr, hb⟩; have HF := Lib.hid (Kd.R_lower hr HB.out.size); have HB1 := Lib.hid (below_step HB.out hb); clear hr hb))
          go_ret
          exact ⟨_, rfl, HF, HB1⟩
      | false =>
        by_cases hu : 0 < u
        · have hu1 : decide (0 < u) = true := decide_eq_true hu
          have e1 : toS false u = 0 := by unfold toS; simp [hu]
          rw [e1] at HSH
          clear e1 hu HS1
          go_wp2_with (first | (go_at_call 46; (with_reducible refine (HSH.out _ _ rfl).mono ?_); rintro e wn ⟨v, rfl, hr, hb⟩; have HF := Lib.hid (Kd.R_lower hr HB.out.size); have HB1 := Lib.hid (below_step HB.out hb); clear hr hb))
          go_ret
          exact ⟨_, rfl, HF, HB1⟩
        · have hu1 : decide (0 < u) = false := decide_eq_false hu
          have e1 : toS false u = u := by unfold toS; simp [hu]
          rw [e1] at HSH
          clear e1 hu HS1
          go_wp2_with (first | (go_at_call 46; (with_reducible refine (HSH.out _ _ rfl).mono ?_); rintro e wn ⟨v, rfl, hr, hb⟩; have HF := Lib.hid (Kd.R_lower hr HB.out.size); have HB1 := Lib.hid (below_step HB.out hb); clear hr hb))
          go_ret
          exact ⟨_, rfl, HF, HB1⟩
end Go.Proofs.Ytlcghlcpngafgaa.PFree
