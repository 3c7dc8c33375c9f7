import Derived.Test.YtlnhhamfmnjapaaWa8
namespace Go.Proofs.Ytlnhhamfmnjapaa
open Go.RowKit Go.Proofs.YtlnhhamfmnjapaaW.PrintWords Go.Proofs.YtlnhhamfmnjapaaW.PrintLast Go.Proofs.YtlnhhamfmnjapaaW.PrintMore
open PParse PUnitRounds PUnitRounds.U
set_option linter.unusedVariables false
set_option linter.unusedSimpArgs false
attribute [local go_sem ↓] exec_alloc27 exec_load27 exec_store27s
attribute [local go_sem] sty_drew row_drew blkV_ptr cells_agg
set_option maxHeartbeats 4000000 in
set_option maxRecDepth 100000 in
theorem lawstyle_calls (A : Option Addr) (len cap : Nat) (zs : List Int) (W : World) (hi : InRow W A len cap zs) :
    Calls Try.prog 18 #[.slice A len cap] W fun e W' => ∃ CS' f', e = .returned (.agg CS') ∧ IsSty CS' f' ∧ Sane f' ∧ Below W.heap.size W W' := by
  have b1 := below_alloc (Below.refl W.heap.size W) (.cells z27 27)
  have h1 : StyIn (W.alloc (.cells z27 27)) W.heap.size z27 := heap_alloc_new W _
  have HI := Lib.hid (hi.below (below_alloc (Below.refl W.heap.size W) (.cells z27 27)))
  have HB := Lib.hid b1
  have HR := Lib.hid h1
  clear b1 h1 hi
  go_enter Try.func18, Try.ntmps18
  go_upto_region 1 with (fail)
  generalize W.alloc (.cells z27 27) = w1 at *
  go_upto_region 2 with (first | (go_at_call 45; (with_reducible refine (text_calls A len cap zs true _ HI.out).mono ?_); rintro e w2 ⟨s, rfl, hb⟩; have HB2 := Lib.hid (below_step HB.out hb); have HR2 := Lib.hid (HR.out.below hb); clear hb; obtain ⟨⟨r1, r2, r3⟩, hr⟩ := parse_tot s) | (go_at_call 44; (with_reducible refine (quoinref4_Parse.calls 130000 s r1 r2 r3 _ hr).mono ?_); rintro e w3 ⟨v0, rfl, hv, hb⟩; have HB3 := Lib.hid (below_step HB2.out hb); have HR3 := Lib.hid (HR2.out.below hb); clear hb; obtain ⟨A3, c3, rfl⟩ := Kd.R_slice hv; have HV := Lib.hid (Kd.R_reads' hv).2.2; clear hv))
  go_wp2_with (go_at_call 46; (with_reducible refine (root_calls A3 c3 r1 _ HV.out).mono ?_); rintro e w4 ⟨CS, f, rfl, hi, hn, hb⟩; have HB4 := Lib.hid (below_step HB3.out hb); have HR4 := Lib.hid (HR3.out.below hb); have hs5 := (sty_mk HR4.out z27_size).1; have hok := okSty_of hi; have H4 := Lib.hid (And.intro hi hn); clear hb hi hn)
  refine bodyPost_ret (results_sty (p := 2) rfl _ _ W.heap.size rfl (sets_sty HR4.out (z27_size.trans H4.out.1.1.symm)) H4.out.1.1) rfl ?_
  exact ⟨_, _, rfl, H4.out.1, H4.out.2, (only_sets _ _ 0 _).below HB4.out (Nat.le_refl _)⟩
theorem rHeld_eq (n m : Int) (hm : 0 ≤ m) : quoinref1_Held.f n (-m) m = some (held n m) := by
  unfold quoinref1_Held.f held mx mn
  congr 1
  split <;> split <;> (try split) <;> omega
theorem rHold_eq (n : Int) : quoinref1_Hold.f n = some (held n 1073741824) := by
  unfold quoinref1_Hold.f
  rw [show (-1073741824 : Int) = -(1073741824) from rfl, rHeld_eq n _ (by decide)]; rfl
theorem rdown_floor (a b : Int) : quoinref1_down.f a b = unit_floor.f a b := rfl
set_option maxHeartbeats 2000000 in
theorem rPct_calls (b h : Int) (w : World) : Calls Try.prog 33 #[.int .i64 b, .int .i64 h] w fun e w' => e = .returned (.int .i64 (pct b h)) ∧ Below w.heap.size w w' := by
  have ⟨h0, h1⟩ := held_bd (n := b) (m := 1073741824) (by decide)
  have ⟨k0, k1⟩ := held_bd (n := h) (m := 1000000000) (by decide)
  have ⟨m0, m1⟩ := mul_bd h0 h1 k0 k1
  have e2 : quoinref1_Held.f h (-1000000000) 1000000000 = some (held h 1000000000) := rHeld_eq h 1000000000 (by decide)
  have e1 := rHold_eq b
  have hp : pct b h = held ((2 * (held b 1073741824 * held h 1000000000) + 10000) / 20000) 1073741824 := rfl
  generalize held b 1073741824 = x at *
  generalize held h 1000000000 = y at *
  have w1 : IntKind.i64.wrap (x * y) = x * y := (i64_w _).trans (w64 (by omega) (by omega))
  have w2 : IntKind.i64.wrap (x * y + 5000) = x * y + 5000 := (i64_w _).trans (w64 (by omega) (by omega))
  have e3 : quoinref1_down.f (x * y + 5000) 10000 = some ((x * y + 5000) / 10000) := by
    rw [rdown_floor, floor_eq _ _ (by decide) (by omega) (by omega) (by decide)]
  have e4 := rHold_eq ((x * y + 5000) / 10000)
  rw [show (x * y + 5000) / 10000 = (2 * (x * y) + 10000) / 20000 from by omega] at e4
  rw [← hp] at e4
  rw [show (x * y + 5000) / 10000 = (2 * (x * y) + 10000) / 20000 from by omega] at e3
  generalize (2 * (x * y) + 10000) / 20000 = q at *
  have HE := Lib.hid (And.intro e1 (And.intro e2 (And.intro e3 e4)))
  clear e1 e2 e3 e4 hp h0 h1 k0 k1 m0 m1
  generalize pct b h = r at *
  have HB := Lib.hid (Below.refl w.heap.size w)
  go_enter Try.func33, Try.ntmps33
  go_wp2_with (first | (go_at_call_of 29 (Value.int .i64 b); (with_reducible refine (quoinref1_Hold.calls b x _ HE.out.1).mono ?_); rintro e w1 ⟨rfl, hb⟩; have HB1 := Lib.hid (below_step HB.out hb); clear hb) | (go_at_call 50; (with_reducible refine (quoinref1_Held.calls h _ _ y _ HE.out.2.1).mono ?_); rintro e w2 ⟨rfl, hb⟩; have HB2 := Lib.hid (below_step HB1.out hb); clear hb) | (go_at_call 52; (with_reducible refine (quoinref1_down.calls _ _ q _ HE.out.2.2.1).mono ?_); rintro e w' ⟨rfl, ⟨nd, rfl⟩⟩; have HB3 := Lib.hid (pw_below_drewN HB2.out nd)) | (go_at_call_of 29 (Value.int .i64 q); (with_reducible refine (quoinref1_Hold.calls q r _ HE.out.2.2.2).mono ?_); rintro e w4 ⟨rfl, hb⟩; have HB4 := Lib.hid (below_step HB3.out hb); clear hb))
  go_ret
  exact ⟨rfl, HB4.out⟩
set_option maxHeartbeats 2000000 in
set_option maxRecDepth 100000 in
theorem rmin_cs (CS : Array Value) (f : Nat → Int) (hs : IsSty CS f) (base : Int) (w : World) : Calls Try.prog 20 #[.agg CS, .bool false, .int .i64 base] w fun e w' => e = .returned (.int .i64 (lstN f base)) ∧ Below w.heap.size w w' := by
  have c0 := hs.2 13 (by omega)
  have c1 := hs.2 14 (by omega)
  unfold lstN
  generalize f 13 = k at *
  generalize f 14 = n at *
  clear hs
  by_cases h1 : k = 1
  · subst h1
    rw [(len_fix n base).1]
    go_enter Try.func20, Try.ntmps20
    go_wp2
    go_ret
    exact ⟨rfl, below_alloc (below_alloc (Below.refl _ _) _) _⟩
  · have b1 : (k == 1) = false := beq_eq_false_iff_ne.2 h1
    by_cases h2 : k = 2
    · subst h2
      by_cases h3 : 0 ≤ base
      · rw [(len_pct n base h3).1]
        have b2 : decide (0 ≤ base) = true := decide_eq_true h3
        go_enter Try.func20, Try.ntmps20
        go_wp2_with (go_at_call 33; (with_reducible refine (rPct_calls base n _).mono ?_); rintro e w1 ⟨rfl, hb1⟩)
        go_ret
        exact ⟨rfl, below_step (below_alloc (below_alloc (Below.refl _ _) _) _) hb1⟩
      · rw [(len_none 2 n base (by decide) (fun h => h3 h.2)).1]
        have b2 : decide (0 ≤ base) = false := decide_eq_false h3
        go_enter Try.func20, Try.ntmps20
        go_wp2
        go_ret
        exact ⟨rfl, below_alloc (below_alloc (Below.refl _ _) _) _⟩
    · rw [(len_none k n base h1 (fun h => h2 h.1)).1]
      have b2 : (k == 2) = false := beq_eq_false_iff_ne.2 h2
      go_enter Try.func20, Try.ntmps20
      go_wp2
      go_ret
      exact ⟨rfl, below_alloc (below_alloc (Below.refl _ _) _) _⟩
set_option maxHeartbeats 2000000 in
set_option maxRecDepth 100000 in
theorem rmax_cs (CS : Array Value) (f : Nat → Int) (hs : IsSty CS f) (base : Int) (w : World) : Calls Try.prog 21 #[.agg CS, .bool false, .int .i64 base] w fun e w' => e = .returned (.int .i64 (mstN f base)) ∧ Below w.heap.size w w' := by
  have c0 := hs.2 17 (by omega)
  have c1 := hs.2 18 (by omega)
  unfold mstN
  generalize f 17 = k at *
  generalize f 18 = n at *
  clear hs
  by_cases h1 : k = 1
  · subst h1
    rw [(len_fix n base).1, (len_fix n base).2, if_pos rfl]
    go_enter Try.func21, Try.ntmps21
    go_wp2
    go_ret
    exact ⟨rfl, below_alloc (below_alloc (Below.refl _ _) _) _⟩
  · have b1 : (k == 1) = false := beq_eq_false_iff_ne.2 h1
    by_cases h2 : k = 2
    · subst h2
      by_cases h3 : 0 ≤ base
      · rw [(len_pct n base h3).1, (len_pct n base h3).2, if_pos rfl]
        have b2 : decide (0 ≤ base) = true := decide_eq_true h3
        go_enter Try.func21, Try.ntmps21
        go_wp2_with (go_at_call 33; (with_reducible refine (rPct_calls base n _).mono ?_); rintro e w1 ⟨rfl, hb1⟩)
        go_ret
        exact ⟨rfl, below_step (below_alloc (below_alloc (Below.refl _ _) _) _) hb1⟩
      · rw [(len_none 2 n base (by decide) (fun h => h3 h.2)).2, if_neg Bool.false_ne_true]
        have b2 : decide (0 ≤ base) = false := decide_eq_false h3
        go_enter Try.func21, Try.ntmps21
        go_wp2
        go_ret
        exact ⟨rfl, below_alloc (below_alloc (Below.refl _ _) _) _⟩
    · rw [(len_none k n base h1 (fun h => h2 h.1)).2, if_neg Bool.false_ne_true]
      have b2 : (k == 2) = false := beq_eq_false_iff_ne.2 h2
      go_enter Try.func21, Try.ntmps21
      go_wp2
      go_ret
      exact ⟨rfl, below_alloc (below_alloc (Below.refl _ _) _) _⟩
end Go.Proofs.Ytlnhhamfmnjapaa
