/- The walk of WideBounds. -/
import Derived.Test.YtlnhhamfmnjapaaWd5
namespace Go.Proofs.Ytlnhhamfmnjapaa
open Go.RowKit Go.Proofs.YtlnhhamfmnjapaaW.PrintWords Go.Proofs.YtlnhhamfmnjapaaW.PrintLast Go.Proofs.YtlnhhamfmnjapaaW.PrintMore
open PUnitRounds PUnitRounds.U
set_option linter.unusedVariables false
/-- A style with a width, bounds of it, and margins of nothing. -/
def bndL (wk x mk m qk q : Int) : List Int := [0, 0, 0, 0, 0, 0, 0, 0, 0, wk, x, 0, 0, mk, m, 0, 0, qk, q, 0, 0, 0, 0, 0, 0, 1, 0, 0, 0, 1, 0, 0, 0, 0, 0, 0, 0, 0, 0, 0, 0, 0, 0]
theorem build_bnd (m q : Int) (W : World) : (Instr.build 27 #[(11, .agg #[.int .i64 1, .int .i64 m]), (13, .agg #[.int .i64 1, .int .i64 q]), (16, .agg #[.int .i64 0, .int .i64 0, .int .i64 1, .int .i64 0, .int .i64 0, .int .i64 0, .int .i64 1, .int .i64 0])]).run Try.prog W = .ok (.agg (styC (bndL 0 0 1 m 1 q))) W := run_build W 27 _ _ (by kernel_rfl)
theorem exec_build_bnd (ρ : Operand → Value) (dst : Option Tmp) (x1 x2 x3 : Operand) (ty : TypeId) (pos : String) (after : Array Edge) (guard : Option (Nat × Bool)) (W : World)
    (h1 : ρ x1 = .agg #[.int .i64 1, .int .i64 (n1 (ρ x1))]) (h2 : ρ x2 = .agg #[.int .i64 1, .int .i64 (n1 (ρ x2))]) (h3 : ρ x3 = .agg #[.int .i64 0, .int .i64 0, .int .i64 1, .int .i64 0, .int .i64 0, .int .i64 0, .int .i64 1, .int .i64 0]) :
    (execOp ρ { dst := dst, op := .build 27 #[(11, x1), (13, x2), (16, x3)], type := ty, pos := pos, after := after, guard := guard }).run Try.prog W = .ok (.value (.agg (styC (bndL 0 0 1 (n1 (ρ x1)) 1 (n1 (ρ x2)))))) W :=
  exec_build_of ρ dst _ #[(11, ρ x1), (13, ρ x2), (16, ρ x3)] ty pos after guard W _ (by simp) (by have := build_bnd (n1 (ρ x1)) (n1 (ρ x2)) W; rw [← h1, ← h2, ← h3] at this; exact this)
theorem okSty_bnd (m q : Int) : okSty (.agg (styC (bndL 0 0 1 m 1 q))) = true := okSty_list _ rfl
attribute [local go_sem ↓] exec_load27 exec_store27 exec_alloc27 exec_build_bnd
attribute [local go_sem] sty_drew row_drew z27_size cells_agg n1_two n1_four okSty_bnd

theorem near_bnd (wk x mk m qk q : Int) (h : ∀ y ∈ [wk, x, mk, m, qk, q], Near y) (i : Nat) : Near (lstF (bndL wk x mk m qk q) i) := by
  refine near_list _ (fun y hy => ?_) i
  have hy2 : y = 0 ∨ y = 1 ∨ y ∈ [wk, x, mk, m, qk, q] := by
    simp [bndL] at hy
    simp
    omega
  rcases hy2 with rfl | rfl | hy2
  · exact ⟨by decide, by decide⟩
  · exact ⟨by decide, by decide⟩
  · exact h _ hy2
theorem bnd_width (wk x mk m qk q b want lo : Int) (hi : Int) (hw : (wk = 0 ∧ want = b) ∨ (wk = 1 ∧ want = x)) (hb0 : 0 ≤ b) (hlo : lenN mk m b = lo) (hhi : (if lenB qk b = true then lenN qk q b else -1) = hi)
    (hn : ∀ y ∈ [wk, x, mk, m, qk, q], Near y) (hb : Near b) (CS : Array Value) (hs : IsSty CS (lstF (bndL wk x mk m qk q))) (W : World) : Calls Try.prog 13 #[.agg CS, .int .i64 b] W fun e w' => e = .returned (.agg #[.int .i64 0, .int .i64 (clampN want lo hi), .int .i64 (b - clampN want lo hi)]) ∧ Below W.heap.size W w' := by
  have hw' := width_cs CS _ hs (fun i _ => near_bnd wk x mk m qk q hn i) b hb W
  have e1 : mlN (lstF (bndL wk x mk m qk q)) b = 0 := rfl
  have e2 : mrN (lstF (bndL wk x mk m qk q)) b = 0 := rfl
  have e3 : w0N (lstF (bndL wk x mk m qk q)) b = want := by
    unfold w0N
    rw [e1, e2]
    show (if sideB wk = true then sideN wk x b else b - 0 - 0 - (0 + 0) - (0 + 0)) = want
    rcases hw with ⟨rfl, rfl⟩ | ⟨rfl, rfl⟩
    · rw [if_neg (by decide)]; omega
    · rw [if_pos (by decide)]; rfl
  have e4 : lstN (lstF (bndL wk x mk m qk q)) b = lo := hlo
  have e5 : mstN (lstF (bndL wk x mk m qk q)) b = hi := hhi
  have e6 : wN (lstF (bndL wk x mk m qk q)) b = clampN want lo hi := by
    unfold wN
    rw [e3, e4, e5]
  have e7 : overN (lstF (bndL wk x mk m qk q)) b = b - clampN want lo hi := by
    unfold overN
    rw [e1, e2, e6]
    show b - clampN want lo hi - (0 + 0) - (0 + 0) - 0 - 0 = _
    omega
  have e9 : sideB (lstF (bndL wk x mk m qk q) 29) = true := rfl
  have e : widthV (lstF (bndL wk x mk m qk q)) b = .agg #[.int .i64 0, .int .i64 (clampN want lo hi), .int .i64 (b - clampN want lo hi)] := by
    unfold widthV
    rw [e1, e2, e3, e6, e7, e9]
    by_cases hc : sideB (lstF (bndL wk x mk m qk q) 9) = false ∧ clampN want lo hi = want
    · rw [if_pos hc]
      have hwk : want = b := by
        rcases hw with ⟨_, h⟩ | ⟨rfl, _⟩
        · exact h
        · have h0 : sideB 1 = false := hc.1
          exact absurd h0 (by decide)
      rw [hc.2, hwk, Int.sub_self]
    · rw [if_neg hc]
      unfold sharedN
      rw [if_pos (.inr rfl), Int.zero_add]
  rw [e] at hw'
  exact hw'

set_option maxHeartbeats 4000000 in
set_option maxRecDepth 100000 in
theorem bounds_walk (a0 a1 a2 a3 : Int) (a4 : Bool) (w : World) :
    Calls Try.prog 5 #[.int .i64 a0, .int .i64 a1, .int .i64 a2, .int .i64 a3, .bool a4] w fun e w' => e = .returned (.bool true) ∧ Below w.heap.size w w' := by
  obtain ⟨x, hx⟩ : ∃ x, Go.bits .and .i64 a0 65535 = x := ⟨_, rfl⟩
  obtain ⟨m, hm⟩ : ∃ m, Go.bits .and .i64 a1 65535 = m := ⟨_, rfl⟩
  obtain ⟨q, hq⟩ : ∃ q, Go.bits .and .i64 a2 65535 = q := ⟨_, rfl⟩
  obtain ⟨b, hb⟩ : ∃ b, Go.bits .and .i64 a3 65535 = b := ⟨_, rfl⟩
  have msk : ∀ a : Int, 0 ≤ Go.bits .and .i64 a 65535 ∧ Go.bits .and .i64 a 65535 ≤ 65535 := fun a => by
    have e : Go.bits .and .i64 a 65535 = a % 65536 := and_mask a 16 (by decide)
    rw [e]; exact ⟨by omega, by omega⟩
  have HX : Hid (0 ≤ x ∧ x ≤ 65535) := by rw [← hx]; exact msk a0
  have HM : Hid (0 ≤ m ∧ m ≤ 65535) := by rw [← hm]; exact msk a1
  have HQ : Hid (0 ≤ q ∧ q ≤ 65535) := by rw [← hq]; exact msk a2
  have HB' : Hid (0 ≤ b ∧ b ≤ 65535) := by rw [← hb]; exact msk a3
  clear msk
  go_enter Try.func5, Try.ntmps5
  go_upto_region 3 with (fail)
  go_cut [12] (fun v12 wc => ∃ g CS, v12 = .pointer (some ⟨g, 0, none⟩) ∧ Hid (StyIn wc g CS) ∧ Hid (IsSty CS (lstF (bndL 0 0 1 m 1 q))) ∧ Hid (Below w.heap.size w wc) ∧ Hid (w.heap.size ≤ g))
  case first =>
    go_wp2_with (go_at_call 17; (with_reducible refine (fix_bounds _ _).mono ?_); rintro e w1 ⟨rfl, rfl⟩)
    go_meet
    case rel => exact ⟨_, _, rfl, heap_at _ _ _ (by simp), isSty_list _ rfl, by repeat (first | exact Below.refl _ _ | apply below_alloc), Lib.hid (show w.heap.size ≤ w.heap.size + 1 + 1 + 1 + 1 by omega)⟩
  case rest =>
    obtain ⟨g, CS, rfl, HST, HIS, HB, HG⟩ := hcut
    clear hx hm hq hb
    go_upto_if 37 with (fail)
    go_cut [13] (fun v13 wc => ∃ CS' wk xx want, v13 = .int .i64 want ∧ Hid (StyIn wc g CS') ∧ Hid (IsSty CS' (lstF (bndL wk xx 1 m 1 q))) ∧ Hid ((wk = 0 ∧ xx = 0 ∧ want = b) ∨ (wk = 1 ∧ xx = x ∧ want = x)) ∧ Hid (Below w.heap.size w wc))
    case first =>
      cases a4
      · go_wp2
        go_meet
        case rel => exact ⟨CS, 0, 0, b, rfl, HST.out, HIS.out, .inl ⟨rfl, rfl, rfl⟩, HB.out⟩
      · go_wp2_with (fail)
        go_at_call 17
        (with_reducible refine (fix_bounds _ _).mono ?_)
        rintro e w1 ⟨rfl, rfl⟩
        have HST1 := Lib.hid (HST.out.alloc (.cells #[.int .i64 1, .int .i64 x] 23))
        have HB1 := Lib.hid (below_alloc HB.out (.cells #[.int .i64 1, .int .i64 x] 23))
        generalize wc.alloc (.cells #[.int .i64 1, .int .i64 x] 23) = W1 at *
        have c9 := HST1.out.cell HIS.out 9 (by omega)
        have c10 := HST1.out.cell HIS.out 10 (by omega)
        have fz9 : W1.frozen? ⟨g, 9, none⟩ = false := blk_frozen HST1.out 9
        have fz10 : W1.frozen? ⟨g, 10, none⟩ = false := blk_frozen HST1.out 10
        go_wp2
        go_meet
        case rel => exact ⟨_, 1, x, x, rfl, (HST1.out.set 9 (.int .i64 1)).set 10 (.int .i64 x), (HIS.out.setL 9 (show 9 < 43 by omega) 1).setL 10 (show 10 < 43 by omega) x, .inr ⟨rfl, rfl, rfl⟩, (HB1.out.setCell (p := ⟨g, 9, none⟩) HG.out _).setCell (p := ⟨g, 10, none⟩) HG.out _⟩
    case rest =>
      obtain ⟨CS1, wk, xx, want, rfl, HST1, HIS1, HW, HB1⟩ := hcut
      clear HST HIS HB
      have HW0 : Hid (0 ≤ want ∧ want ≤ 65535) := by
        have h1 := HX.out; have h2 := HB'.out
        rcases HW.out with ⟨_, _, rfl⟩ | ⟨_, _, rfl⟩
        · exact h2
        · exact h1
      have HWX : Hid ((wk = 0 ∧ want = b) ∨ (wk = 1 ∧ want = xx)) := by
        rcases HW.out with ⟨h1, _, h3⟩ | ⟨h1, h2, h3⟩
        · exact .inl ⟨h1, h3⟩
        · exact .inr ⟨h1, h3.trans h2.symm⟩
      have HNR : Hid (∀ mk qk m' q', (mk = 0 ∨ mk = 1) → (qk = 0 ∨ qk = 1) → (m' = 0 ∨ m' = m) → (q' = 0 ∨ q' = q) → ∀ y ∈ [wk, xx, mk, m', qk, q'], Near y) := fun mk qk m' q' h1 h2 h3 h4 y hy => by
        have k1 := HX.out; have k2 := HM.out; have k3 := HQ.out
        have : y = wk ∨ y = xx ∨ y = mk ∨ y = m' ∨ y = qk ∨ y = q' := by simpa using hy
        unfold Near
        rcases HW.out with ⟨h1, h2, _⟩ | ⟨h1, h2, _⟩ <;> omega
      have H13 : Hid (∀ W, Calls Try.prog 13 #[.agg CS1, .int .i64 b] W fun e w' => e = .returned (.agg #[.int .i64 0, .int .i64 (max (min want q) m), .int .i64 (b - max (min want q) m)]) ∧ Below W.heap.size W w') := fun W => by
        have k2 := HM.out; have k3 := HQ.out; have kb := HB'.out
        have := bnd_width wk xx 1 m 1 q b want m q HWX.out kb.1 (by rw [(len_fix m b).1]; omega) (by rw [if_pos (len_fix q b).2, (len_fix q b).1]; omega) (HNR.out 1 1 m q (.inr rfl) (.inr rfl) (.inr rfl) (.inr rfl)) (by unfold Near; omega) CS1 HIS1.out W
        have e : clampN want m q = max (min want q) m := by
          unfold clampN
          rw [if_pos (by omega)]
          omega
        rw [e] at this
        exact this
      obtain ⟨r, hr⟩ : ∃ r, max (min want q) m = r := ⟨_, rfl⟩
      rw [hr] at H13
      have HR := Lib.hid hr
      clear hr
      have HRB : Hid (0 ≤ r ∧ r ≤ 65535) := by
        have h1 := HR.out; have k2 := HM.out; have k3 := HQ.out; have k0 := HW0.out
        show 0 ≤ r ∧ r ≤ 65535
        omega
      obtain ⟨hst, hrow⟩ := sty_of HST1.out HIS1.out.1
      go_upto_region 8 with (go_at_call 13; (with_reducible refine (H13.out _).mono ?_); rintro e W2 ⟨rfl, hb⟩; have HST2 := Lib.hid (HST1.out.below hb); have HB2 := Lib.hid (below_step HB1.out hb); clear hb)
      clear hst hrow HST1 HB1 H13
      have HST3 := Lib.hid (HST2.out.alloc (.cells #[.int .i64 0, .int .i64 r, .int .i64 (b - r)] 29))
      have HB3 := Lib.hid (below_alloc HB2.out (.cells #[.int .i64 0, .int .i64 r, .int .i64 (b - r)] 29))
      have HOT3 := Lib.hid (show OutIn (W2.alloc (.cells #[.int .i64 0, .int .i64 r, .int .i64 (b - r)] 29)) W2.heap.size 0 r (b - r) from heap_alloc_new W2 _)
      have HNE : Hid (W2.heap.size ≠ g) := Ne.symm (Nat.ne_of_lt (blk_lt HST2.out))
      clear HST2 HB2
      generalize W2.alloc (.cells #[.int .i64 0, .int .i64 r, .int .i64 (b - r)] 29) = W3 at *
      generalize W2.heap.size = g2 at *
      go_cut [] (fun wd => ∃ CS', Hid (StyIn wd g CS') ∧ Hid (IsSty CS' (lstF (bndL wk xx 1 0 0 0))) ∧ Hid (OutIn wd g2 0 r (b - r)) ∧ Hid (Below w.heap.size w wd))
      case first =>
        go_wp2_with (fail)
        go_at_call 17
        (with_reducible refine (fix_bounds _ _).mono ?_)
        rintro e w1 ⟨rfl, rfl⟩
        have HST4 := Lib.hid (HST3.out.alloc (.cells #[.int .i64 1, .int .i64 0] 23))
        have HB4 := Lib.hid (below_alloc HB3.out (.cells #[.int .i64 1, .int .i64 0] 23))
        have HOT4 := Lib.hid (HOT3.out.alloc (.cells #[.int .i64 1, .int .i64 0] 23))
        clear HST3 HB3 HOT3
        generalize W3.alloc (.cells #[.int .i64 1, .int .i64 0] 23) = W4 at *
        have c13 := HST4.out.cell HIS1.out 13 (by omega)
        have c14 := HST4.out.cell HIS1.out 14 (by omega)
        have c17 := HST4.out.cell HIS1.out 17 (by omega)
        have c18 := HST4.out.cell HIS1.out 18 (by omega)
        have fz13 : W4.frozen? ⟨g, 13, none⟩ = false := blk_frozen HST4.out 13
        have fz14 : W4.frozen? ⟨g, 14, none⟩ = false := blk_frozen HST4.out 14
        have fz17 : W4.frozen? ⟨g, 17, none⟩ = false := blk_frozen HST4.out 17
        have fz18 : W4.frozen? ⟨g, 18, none⟩ = false := blk_frozen HST4.out 18
        go_wp2
        go_meet
        case rel => exact ⟨_, (((HST4.out.set 13 (.int .i64 1)).set 14 (.int .i64 0)).set 17 (.int .i64 0)).set 18 (.int .i64 0), (((HIS1.out.setL 13 (show 13 < 43 by omega) 1).setL 14 (show 14 < 43 by omega) 0).setL 17 (show 17 < 43 by omega) 0).setL 18 (show 18 < 43 by omega) 0, (((HOT4.out.far (p := ⟨g, 13, none⟩) HNE.out _).far (p := ⟨g, 14, none⟩) HNE.out _).far (p := ⟨g, 17, none⟩) HNE.out _).far (p := ⟨g, 18, none⟩) HNE.out _, (((HB4.out.setCell (p := ⟨g, 13, none⟩) HG.out _).setCell (p := ⟨g, 14, none⟩) HG.out _).setCell (p := ⟨g, 17, none⟩) HG.out _).setCell (p := ⟨g, 18, none⟩) HG.out _⟩
      case rest =>
        obtain ⟨CS2, HST4, HIS2, HOT4, HB4⟩ := hcut
        clear HST3 HB3 HOT3 HIS1
        have H14 : Hid (∀ W, Calls Try.prog 13 #[.agg CS2, .int .i64 b] W fun e w' => e = .returned (.agg #[.int .i64 0, .int .i64 want, .int .i64 (b - want)]) ∧ Below W.heap.size W w') := fun W => by
          have k2 := HM.out; have k3 := HQ.out; have kb := HB'.out; have k0 := HW0.out
          have := bnd_width wk xx 1 0 0 0 b want 0 (-1) HWX.out kb.1 (len_fix 0 b).1 (if_neg (by rw [(len_none 0 0 b (by decide) (fun h => absurd h.1 (by decide))).2]; decide)) (HNR.out 1 0 0 0 (.inr rfl) (.inl rfl) (.inl rfl) (.inl rfl)) (by unfold Near; omega) CS2 HIS2.out W
          have e : clampN want 0 (-1) = want := by
            unfold clampN
            rw [if_neg (by decide)]
            omega
          rw [e] at this
          exact this
        obtain ⟨hst, hrow⟩ := sty_of HST4.out HIS2.out.1
        go_upto_region 10 with (go_at_call 13; (with_reducible refine (H14.out _).mono ?_); rintro e W5 ⟨rfl, hb⟩; have HOT5 := Lib.hid (HOT4.out.below hb); have HB5 := Lib.hid (below_step HB4.out hb); clear hb)
        clear hst hrow HST4 HB4 HOT4 H14 HIS2
        have HOT6 := Lib.hid (HOT5.out.alloc (.cells #[.int .i64 0, .int .i64 want, .int .i64 (b - want)] 29))
        have HB6 := Lib.hid (below_alloc HB5.out (.cells #[.int .i64 0, .int .i64 want, .int .i64 (b - want)] 29))
        have HOU6 := Lib.hid (show OutIn (W5.alloc (.cells #[.int .i64 0, .int .i64 want, .int .i64 (b - want)] 29)) W5.heap.size 0 want (b - want) from heap_alloc_new W5 _)
        clear HOT5 HB5
        generalize W5.alloc (.cells #[.int .i64 0, .int .i64 want, .int .i64 (b - want)] 29) = W6 at *
        generalize W5.heap.size = g5 at *
        obtain ⟨o0, o1, o2, of⟩ := HOT6.out.cells
        clear of
        obtain ⟨p0, p1, p2, pf⟩ := HOU6.out.cells
        clear pf
        have hr := HR.out
        have hrb := HRB.out
        have hb0 := HB'.out
        obtain ⟨br0, br1⟩ := hrb
        obtain ⟨bb0, bb1⟩ := hb0
        clear HW HWX HNR HX HM HQ HW0 HR HRB HB'
        go_wp2_with (go_at_call 14; (with_reducible refine (awake_calls _).mono ?_); rintro e W8 ⟨rfl, hb⟩; have HB8 := Lib.hid (below_step HB6.out hb); clear hb)
        go_ret
        exact ⟨rfl, HB8.out⟩
end Go.Proofs.Ytlnhhamfmnjapaa
