import Derived.Test.YtlnhhamfmnjapaaWa9
namespace Go.Proofs.Ytlnhhamfmnjapaa
open Go.RowKit Go.Proofs.YtlnhhamfmnjapaaW.PrintWords Go.Proofs.YtlnhhamfmnjapaaW.PrintLast Go.Proofs.YtlnhhamfmnjapaaW.PrintMore
open PUnitRounds PUnitRounds.U
set_option linter.unusedVariables false
set_option linter.unusedSimpArgs false
attribute [local go_sem ↓] exec_alloc27 exec_load27 exec_store27s
attribute [local go_sem] sty_drew row_drew blkV_ptr cells_agg
theorem ua_mod (a m : Int) (h0 : 0 < m) (h1 : m ≤ 4611686018427387904) : 0 ≤ wrap64 ((IntKind.u64.wrap a).tmod m) ∧ wrap64 ((IntKind.u64.wrap a).tmod m) < m := by
  have e : IntKind.u64.wrap a = a % 18446744073709551616 := rfl
  rw [e]
  have hp : 0 ≤ a % 18446744073709551616 := Int.emod_nonneg _ (by decide)
  generalize a % 18446744073709551616 = z at *
  rw [Int.tmod_eq_emod_of_nonneg hp]
  have b0 := Int.emod_nonneg z (b := m) (by omega)
  have b1 := Int.emod_lt_of_pos z h0
  generalize z % m = y at *
  rw [w64 (by omega) (by omega)]
  exact ⟨b0, b1⟩
structure SW (W w : World) (g g6 : Nat) (CS : Array Value) (f : Nat → Int) (l x r : Int) : Prop where
  s : StyIn w g CS
  i : IsSty CS f
  q : w.heap[g6]? = some (.cells #[.int .i64 l, .int .i64 x, .int .i64 r] 29 (0, 0))
  b : Below W.heap.size W w
theorem SW.below {W w w1 : World} {g g6 : Nat} {CS : Array Value} {f : Nat → Int} {l x r : Int} (h : SW W w g g6 CS f l x r) (hb : Below w.heap.size w w1) : SW W w1 g g6 CS f l x r :=
  ⟨h.s.below hb, h.i, blk_below h.q hb, below_step h.b hb⟩
set_option maxHeartbeats 8000000 in
set_option maxRecDepth 100000 in
theorem adds_walk (A : Option Addr) (len cap : Nat) (zs : List Int) (a1 : Int) (W : World) (hi : InRow W A len cap zs) :
    Calls Try.prog 6 #[.slice A len cap, .int .i64 a1] W fun e W' => e = .returned (.bool true) ∧ Below W.heap.size W W' := by
  have HI := Lib.hid hi
  clear hi
  go_enter Try.func6, Try.ntmps6
  go_upto_region 2 with (go_at_call 18; (with_reducible refine (lawstyle_calls A len cap zs _ HI.out).mono ?_); rintro e w1 ⟨CS, f, rfl, hi, hn, hb⟩; have HB1 := Lib.hid hb; have hs5 := (sty_mk (heap_alloc_new w1 (.cells z27 27)) z27_size).1; have hok := okSty_of hi; have H1 := Lib.hid (And.intro hi hn); clear hb hi hn)
  go_upto_region 3 with (fail)
  have qb := ua_mod a1 268435456 (by decide) (by decide)
  generalize wrap64 ((IntKind.u64.wrap a1).tmod 268435456) = b at *
  have nb : Near b := by unfold Near; omega
  obtain ⟨l, x, r, hv, HA0⟩ := width_adds f b H1.out.2 nb
  have HA := Lib.hid HA0
  have HQB := Lib.hid qb
  have HW := Lib.hid (fun w => hv ▸ width_cs CS f H1.out.1 H1.out.2.nr b nb w)
  have hsty : StyIn ((w1.alloc (.cells z27 27)).setCells w1.heap.size 0 CS.toList) w1.heap.size CS := sets_sty (heap_alloc_new w1 (.cells z27 27)) (z27_size.trans H1.out.1.1.symm)
  have hbel := (only_sets w1.heap.size CS.toList 0 (w1.alloc (.cells z27 27))).below (below_alloc HB1.out (.cells z27 27)) HB1.out.size
  have HS2 := Lib.hid hsty
  have HB2 := Lib.hid hbel
  clear HA0 hv qb nb hsty hbel hok hs5
  generalize (w1.alloc (.cells z27 27)).setCells w1.heap.size 0 CS.toList = w2 at *
  generalize w1.heap.size = g at *
  have hs6 := (sty_mk HS2.out H1.out.1.1).1
  have hs7 := (sty_mk HS2.out H1.out.1.1).2
  go_upto_region 4 with (go_at_call 13; (with_reducible refine (HW.out _).mono ?_); rintro e w3 ⟨rfl, hb⟩; have HS3 := Lib.hid (HS2.out.below hb); have HB3 := Lib.hid (below_step HB2.out hb); clear hb)
  have B4 := below_alloc (Below.refl w3.heap.size w3) (.cells #[.int .i64 l, .int .i64 x, .int .i64 r] 29)
  have h4 : SW W (w3.alloc (.cells #[.int .i64 l, .int .i64 x, .int .i64 r] 29)) g w3.heap.size CS f l x r := ⟨HS3.out.below B4, H1.out.1, heap_alloc_new w3 _, below_step HB3.out B4⟩
  have H4 := Lib.hid h4
  clear B4 h4 hs6 hs7
  generalize w3.alloc (.cells #[.int .i64 l, .int .i64 x, .int .i64 r] 29) = w4 at *
  generalize w3.heap.size = g6 at *
  have hs6 := (sty_mk H4.out.s H1.out.1.1).1
  have hs7 := (sty_mk H4.out.s H1.out.1.1).2
  have hE : ∃ v31 v33, ∀ w, Calls Try.prog 19 #[.agg CS] w fun e w' => e = .returned (.tuple #[.int .i64 v31, .int .i64 (f 32 + f 36), .int .i64 v33, .int .i64 (f 34 + f 38)]) ∧ Below w.heap.size w w' := ⟨_, _, fun w => edges_cs CS f H1.out.1 (fun i _ hi => H1.out.2.nr i (by omega)) w⟩
  obtain ⟨v31, v33, hE⟩ := hE
  have HE := Lib.hid hE
  clear hE
  go_upto_region 5 with (go_at_call 19; (with_reducible refine (HE.out _).mono ?_); rintro e w5 ⟨rfl, hb⟩; have H5 := Lib.hid (H4.out.below hb); clear hb)
  clear hs6 hs7
  have HMN := Lib.hid (fun w => rmin_cs CS f H1.out.1 b w)
  have HMX := Lib.hid (fun w => rmax_cs CS f H1.out.1 b w)
  obtain ⟨R, hR⟩ : ∃ R, f 32 + f 36 = R := ⟨_, rfl⟩
  obtain ⟨E, hEE⟩ : ∃ E, f 34 + f 38 = E := ⟨_, rfl⟩
  obtain ⟨lo, hlo⟩ : ∃ lo, lstN f b = lo := ⟨_, rfl⟩
  obtain ⟨hi, hhi⟩ : ∃ hi, mstN f b = hi := ⟨_, rfl⟩
  rw [hR, hEE]
  rw [hlo] at HMN
  rw [hhi] at HMX
  have HN := Lib.hid (And.intro hR (And.intro hEE (And.intro hlo hhi)))
  clear hR hEE hlo hhi
  have hss := sty_mk H5.out.s H1.out.1.1
  have HSS := Lib.hid hss
  go_cut [11, 12] (fun v11 v12 wc => v11 = .int .i64 lo ∧ v12 = .int .i64 hi ∧ Hid (SW W wc g g6 CS f l x r))
  case first =>
    have HK1 := Lib.hid (Below.refl w5.heap.size w5)
    go_region_held3 (fun w' => StyAt w' (.pointer (some ⟨g, 0, none⟩)) ∧ rowV w' (.pointer (some ⟨g, 0, none⟩)) = CS) (first | go_keep | exact HSS.out | exact sty_mk (H5.out.s.below HK1.out) H1.out.1.1) (first | (go_at_call 20; (with_reducible refine (HMN.out _).mono ?_); rintro e wx ⟨rfl, hb⟩; first | (have HK1 := Lib.hid (below_step HK1.out hb)) | (have HK1 := Lib.hid (show Below w5.heap.size w5 wx from below_step (below_drew1 (Below.refl _ _)) hb))) | (go_at_call 21; (with_reducible refine (HMX.out _).mono ?_); rintro e wx ⟨rfl, hb⟩; first | (have HK1 := Lib.hid (below_step HK1.out hb)) | (have HK1 := Lib.hid (show Below w5.heap.size w5 wx from below_step (below_drew1 (Below.refl _ _)) hb))))
    all_goals (
      go_wp2
      go_meet
      case rel => exact ⟨rfl, rfl, Lib.hid (H5.out.below HK1.out)⟩)
  case rest =>
    obtain ⟨rfl, rfl, H6⟩ := hcut
    clear hss HSS H5 H4 HMN HMX
    obtain ⟨told, htold⟩ : ∃ x, sideB (f 29) = x := ⟨_, rfl⟩
    obtain ⟨left, hleft⟩ : ∃ x, mlN f b = x := ⟨_, rfl⟩
    obtain ⟨rt, hrt⟩ : ∃ x, sideB (f 25) = x := ⟨_, rfl⟩
    obtain ⟨rv, hrv⟩ : ∃ x, sideN (f 25) (f 26) b = x := ⟨_, rfl⟩
    obtain ⟨k9, hk9⟩ : ∃ x, f 9 = x := ⟨_, rfl⟩
    have HSL := Lib.hid (fun w => side_calls (f 29) (f 30) b w)
    have HSR := Lib.hid (fun w => side_calls (f 25) (f 26) b w)
    rw [htold, show sideN (f 29) (f 30) b = left from hleft] at HSL
    rw [hrt, hrv] at HSR
    have HT := Lib.hid (And.intro htold (And.intro hleft (And.intro hrt hk9)))
    clear htold hleft hrt hrv
    have c29 := H6.out.s.cell H6.out.i 29 (by decide)
    have c30 := H6.out.s.cell H6.out.i 30 (by decide)
    go_upto_region 7 with (go_at_call 22; (with_reducible refine (HSL.out _).mono ?_); rintro e w7 ⟨rfl, hb⟩; have H7 := Lib.hid (H6.out.below hb); clear hb)
    clear c29 c30
    have c25 := H7.out.s.cell H7.out.i 25 (by decide)
    have c26 := H7.out.s.cell H7.out.i 26 (by decide)
    go_upto_region 8 with (go_at_call 22; (with_reducible refine (HSR.out _).mono ?_); rintro e w8 ⟨rfl, hb⟩; have H8 := Lib.hid (H7.out.below hb); clear hb)
    clear c25 c26 H6 H7 HSL HSR HE HW
    have q0 := (blk_cell H8.out.q 0).trans (show _ = some (Value.int .i64 l) from rfl)
    have q1 := (blk_cell H8.out.q 1).trans (show _ = some (Value.int .i64 x) from rfl)
    have q2 := (blk_cell H8.out.q 2).trans (show _ = some (Value.int .i64 r) from rfl)
    have c9 := H8.out.s.cell H8.out.i 9 (by decide)
    rw [hk9] at c9
    clear hk9
    obtain ⟨hR, hE, hlo, hhi⟩ := HN.out
    obtain ⟨htold, hleft, hrt, hk9⟩ := HT.out
    have n32 := H1.out.2.nr 32 (by decide)
    have n34 := H1.out.2.nr 34 (by decide)
    have n36 := H1.out.2.nr 36 (by decide)
    have n38 := H1.out.2.nr 38 (by decide)
    unfold Near at n32 n34 n36 n38
    have hsum := HA.out.sum
    have hlo2 := HA.out.lo
    have hhi2 := HA.out.hi
    have hle2 := HA.out.left
    have hge := HA.out.ge
    have hau := HA.out.auto
    have hbl := HA.out.bl
    have hbw := HA.out.bw
    have hbr := HA.out.br
    have hqb := HQB.out
    rw [hR, hE] at hsum
    rw [hlo] at hlo2
    rw [hhi, hlo] at hhi2
    rw [htold, hleft] at hle2
    rw [htold, hrt, hk9] at hau
    have hR2 : -137438953472 ≤ R ∧ R ≤ 137438953472 := by omega
    have hE2 : -137438953472 ≤ E ∧ E ≤ 137438953472 := by omega
    have hau2 : told = false → rt = false → 0 ≤ b - x - R - E → k9 ≠ 0 → 0 ≤ r - l ∧ r - l ≤ 1 := fun h1 h2 h3 h4 => hau h1 h2 (by omega) h4
    clear hau n32 n34 n36 n38 hR hE hlo hhi htold hleft hrt hk9 HN HT H1 HA
    have wa : wrap64 (l + R) = l + R := (w64 (by omega) (by omega))
    have wa' : IntKind.i64.wrap (l + R) = l + R := (i64_w _).trans wa
    have wb : wrap64 (l + R + E) = l + R + E := (w64 (by omega) (by omega))
    have wb' : IntKind.i64.wrap (l + R + E) = l + R + E := (i64_w _).trans wb
    have wc1 : wrap64 (l + R + E + x) = l + R + E + x := (w64 (by omega) (by omega))
    have wc1' : IntKind.i64.wrap (l + R + E + x) = l + R + E + x := (i64_w _).trans wc1
    have wd : wrap64 (l + R + E + x + r) = b := (w64 (by omega) (by omega)).trans (by omega)
    have wd' : IntKind.i64.wrap (l + R + E + x + r) = b := (i64_w _).trans wd
    have we : wrap64 (b - x) = b - x := (w64 (by omega) (by omega))
    have we' : IntKind.i64.wrap (b - x) = b - x := (i64_w _).trans we
    have wf : wrap64 (b - x - R) = b - x - R := (w64 (by omega) (by omega))
    have wf' : IntKind.i64.wrap (b - x - R) = b - x - R := (i64_w _).trans wf
    obtain ⟨fr, hfr⟩ : ∃ fr, b - x - R - E = fr := ⟨_, rfl⟩
    have wg : wrap64 (b - x - R - E) = fr := (w64 (by omega) (by omega)).trans hfr
    have wg' : IntKind.i64.wrap (b - x - R - E) = fr := (i64_w _).trans wg
    obtain ⟨dd, hdd⟩ : ∃ dd, r - l = dd := ⟨_, rfl⟩
    have wh : wrap64 (r - l) = dd := (w64 (by omega) (by omega)).trans hdd
    have wh' : IntKind.i64.wrap (r - l) = dd := (i64_w _).trans wh
    rw [hfr, hdd] at hau2
    have t1 : decide (x < lo) = false := decide_eq_false (by omega)
    have t2 : decide (x < 0) = false := decide_eq_false (by omega)
    have HP := Lib.hid (And.intro hhi2 (And.intro hle2 hau2))
    clear hsum hlo2 hhi2 hle2 hge hau2 hbl hbw hbr hqb hR2 hE2 hfr hdd
    go_cut [103] (fun v wc => v = .bool false ∧ w8 = wc)
    case first =>
      cases e1 : decide (0 ≤ hi)
      · cases told
        · go_wp2
          go_meet
          case rel => exact ⟨rfl, rfl⟩
        · have e2 : l = left := HP.out.2.1 rfl
          have e3 : (l != left) = false := bne_eq_false_iff_eq.mpr e2
          clear e2
          go_wp2
          go_meet
          case rel => exact ⟨rfl, rfl⟩
      · have e4 := HP.out.1 (of_decide_eq_true e1)
        have e5 : decide (max hi lo < x) = false := decide_eq_false (by omega)
        cases told
        · go_wp2
          go_meet
          case rel => exact ⟨rfl, rfl⟩
        · have e2 : l = left := HP.out.2.1 rfl
          have e3 : (l != left) = false := bne_eq_false_iff_eq.mpr e2
          clear e2
          go_wp2
          go_meet
          case rel => exact ⟨rfl, rfl⟩
    case rest =>
      obtain ⟨rfl, rfl⟩ := hcut
      clear t1 t2
      cases told
      · cases rt
        · cases e1 : decide (0 ≤ fr)
          · go_wp2_with (go_at_call 14; (with_reducible refine (awake_calls _).mono ?_); rintro e w9 ⟨rfl, hb⟩; have HB9 := Lib.hid (below_step H8.out.b hb); clear hb)
            go_ret
            exact ⟨rfl, HB9.out⟩
          · by_cases h9 : k9 = 0
            · have b9 : (k9 == 0) = true := beq_iff_eq.mpr h9
              go_wp2_with (go_at_call 14; (with_reducible refine (awake_calls _).mono ?_); rintro e w9 ⟨rfl, hb⟩; have HB9 := Lib.hid (below_step H8.out.b hb); clear hb)
              go_ret
              exact ⟨rfl, HB9.out⟩
            · have b9 : (k9 == 0) = false := beq_eq_false_iff_ne.mpr h9
              obtain ⟨d0, d1⟩ := HP.out.2.2 rfl rfl (of_decide_eq_true e1) h9
              have t3 : decide (0 ≤ dd) = true := decide_eq_true d0
              have t4 : decide (dd ≤ 1) = true := decide_eq_true d1
              clear d0 d1
              go_wp2_with (go_at_call 14; (with_reducible refine (awake_calls _).mono ?_); rintro e w9 ⟨rfl, hb⟩; have HB9 := Lib.hid (below_step H8.out.b hb); clear hb)
              go_ret
              exact ⟨rfl, HB9.out⟩
        · go_wp2_with (go_at_call 14; (with_reducible refine (awake_calls _).mono ?_); rintro e w9 ⟨rfl, hb⟩; have HB9 := Lib.hid (below_step H8.out.b hb); clear hb)
          go_ret
          exact ⟨rfl, HB9.out⟩
      · go_wp2_with (go_at_call 14; (with_reducible refine (awake_calls _).mono ?_); rintro e w9 ⟨rfl, hb⟩; have HB9 := Lib.hid (below_step H8.out.b hb); clear hb)
        go_ret
        exact ⟨rfl, HB9.out⟩
end Go.Proofs.Ytlnhhamfmnjapaa
