/- The walk of PoolUnlike. -/
import Derived.Test.YtphaaagcdjpceaaDoorPu0
import Derived.Deep.RegionHeld3
namespace Go.Proofs.YtphaaagcdjpceaaDoor
open Go.RowKit Go.Extern.Stop Go.Stop Go.Extern Go.Proofs.YtphaaagcdjpceaaDoorW.PrintWords Go.Proofs.YtphaaagcdjpceaaDoorW.PrintLast Go.Proofs.YtphaaagcdjpceaaDoorW.PrintMore
set_option linter.unusedVariables false
set_option maxHeartbeats 8000000 in
set_option maxRecDepth 100000 in
theorem unlike_walk (a : Int) (A : Option Addr) (len cap : Nat) (zs : List Int) (w : World) (hG : Good w) (hi : InRow w A len cap zs) : Calls Tryd.prog 6 #[.int .i64 a, .slice A len cap] w fun e w' => e = .returned (.bool true) ∧ Below w.heap.size w w' := by
  have HG := Lib.hid hG
  have HI := Lib.hid hi
  have qa : Go.bits .and .i64 a 7 = a % 8 := and_mask a 3 (by decide)
  clear hG hi
  go_enter Tryd.func6, Tryd.ntmps6
  go_wp2_with (fail)
  obtain ⟨m, hm, hm1, hm2⟩ : ∃ m : Nat, a % 8 + 1 = (m : Int) ∧ 1 ≤ m ∧ m ≤ 8 := ⟨(a % 8 + 1).toNat, by omega, by omega, by omega⟩
  rw [hm]
  have HQ := Lib.hid qa; have HM := Lib.hid hm
  clear qa hm
  go_at_call 15
  (with_reducible refine (new_calls2 (m : Int) _).mono ?_)
  rintro e w1 ⟨rfl, h1⟩
  rw [show min (max (m : Int) 0) 10000 = (m : Int) from by omega] at h1
  have H1 := Lib.hid h1
  generalize w.heap.size = g at *
  clear h1
  go_wp2_with (fail)
  go_loopg [6, 7, 8, 9] 60 (fun gk v6 v7 v8 v9 wr => ∃ (i : Nat) (ps : List S108) (hs : List S40) (bs : List Bool), v9 = .int .i64 (i : Int) ∧ v8 = .int .i64 (cnt ps : Int) ∧ i ≤ 60 ∧ 60 - i ≤ gk ∧ Hid (Unl ps hs bs m i) ∧ Hid (St w wr g (m : Int) ps (cnt ps : Int)) ∧ Hid (HR wr w.heap.size v6 hs) ∧ Hid (BR wr w.heap.size v7 bs))
  case atStart => exact ⟨0, [], [], [], rfl, rfl, by omega, by omega, Unl.zero m, H1.out, Kd.R_nil _ _ _ _ _, Kd.R_nil _ _ _ _ _⟩
  case round =>
    obtain ⟨i, ps, hs, bs, rfl, rfl, hi, hk, HU, HS, HV, HB⟩ := hrel
    clear H1
    obtain ⟨A6, c6, rfl⟩ := Kd.R_slice HV.out
    obtain ⟨A7, c7, rfl⟩ := Kd.R_slice HB.out
    by_cases h20 : i < 60
    · by_cases hlen : i < len
      · obtain ⟨x, n, rfl, hx, _, _⟩ := (HI.out.below HS.out.bl).at_ i hlen
        have c0 : (i : Int) < (len : Int) := by omega
        have c00 : (0 : Int) ≤ (i : Int) := by omega
        have c1 : (i : Int) < 60 := by omega
        have qn : Go.bits .and .i64 n 1 = n % 2 := and_mask n 1 (by decide)
        by_cases hc : 0 < hs.length
        · have qk : Go.bits .and .i64 (n / 2) 65535 = n / 2 % 65536 := and_mask (n / 2) 16 (by decide)
          have qt : Int.tmod (n / 2 % 65536) (hs.length : Int) = n / 2 % 65536 % (hs.length : Int) := Int.tmod_eq_emod_of_nonneg (Int.emod_nonneg _ (by decide))
          have cm : (hs.length : Int) ≠ 0 := by omega
          obtain ⟨k, hk1, hkl⟩ : ∃ k : Nat, n / 2 % 65536 % (hs.length : Int) = (k : Int) ∧ k < hs.length := ⟨(n / 2 % 65536 % (hs.length : Int)).toNat, by have := Int.emod_nonneg (n / 2 % 65536) cm; omega, by have := Int.emod_lt_of_pos (n / 2 % 65536) (show (0 : Int) < (hs.length : Int) by omega); have := Int.emod_nonneg (n / 2 % 65536) cm; omega⟩
          have ch0 : (0 : Int) < (hs.length : Int) := by omega
          go_upto_region 14 with (fail)
          try rw [hk1]
          clear qk qt cm hk1
          by_cases hodd : n % 2 = 1
          · have ho : (n % 2 == 1) = true := by simpa using hodd
            clear hodd
            by_cases hfull : ff ps = m
            · have hlm : ps.length = m := by have := ff_le ps; have := HU.out.lp; omega
              have hcm : cnt ps = m := by rw [cnt_all (by omega)]; exact hlm
              have HSf : Hid (St w wr g ((ff ps : Nat) : Int) ps (cnt ps : Int)) := Lib.hid (by rw [hfull]; exact HS.out)
              have HU2 := Lib.hid HU.out.up
              have cn0 : ¬ ((cnt ps : Int) < (m : Int)) := by omega
              have dn : decide ((cnt ps : Int) < (m : Int)) = false := decide_eq_false cn0
              have LPf := Lib.hid (show ps.length ≤ 1000 by omega)
              clear hlm hcm
              go_wp2_with (fail)
              go_at_call 16
              (with_reducible refine (full2 w _ HG.out g (cnt ps : Int) ps (ff ps) HSf.out (ff_le ps) (fun k hk => ff_tk hk) (fun h => ff_no h) LPf.out).mono ?_)
              rintro e w2 ⟨k2, rfl, hj2, h2, b2⟩
              rw [hfull] at h2
              have B2 := below_alloc (Below.refl w2.heap.size w2) (.cells #[.int .i64 0, .int .i64 0] 40)
              have HS4 := Lib.hid (h2.below B2)
              have HV4 := Lib.hid ((HR.below HV.out b2).below B2)
              have HB4 := Lib.hid ((BR.below HB.out b2).below B2)
              clear h2 b2 hj2 B2 HS HSf HV HB
              go_wp2
              go_roundg (60 - (i + 1))
              case measure => omega
              case rel => exact ⟨i + 1, _, _, _, by simp, rfl, by omega, by omega, HU2.out, HS4.out, HV4.out, HB4.out⟩
            · have hcm : cnt ps < m := by
                rcases Nat.lt_or_ge (ff ps) ps.length with hl | hl
                · have := cnt_no hl (ff_no hl); have := HU.out.lp; omega
                · have := cnt_le ps; have := ff_le ps; have := HU.out.lp; omega
              have hfm : ff ps < m := by have := ff_le ps; have := HU.out.lp; omega
              have HU2 := Lib.hid (HU.out.take (ff_le ps) (fun h => ff_no h) hfm)
              have HCT := Lib.hid (cnt_took (ff ps) (ff_le ps) (fun h => ff_no h))
              have HTB := Lib.hid (HU.out.bound (ff_le ps))
              have HOLD := Lib.hid (fun (k : Nat) (hk : k < hs.length) => HU.out.old (i := ff ps) hk)
              have LBH := Lib.hid (show bs.length ≤ 60 by rw [HU.out.lb]; have := HU.out.lc; omega)
              have LH := Lib.hid (show hs.length ≤ 60 by have := HU.out.lc; omega)
              have cn0 : (cnt ps : Int) < (m : Int) := by omega
              have cn1 : (0 : Int) ≤ (cnt ps : Int) := by omega
              clear hcm
              go_wp2_with (fail)
              go_at_call 16
              (with_reducible refine (take2 w _ g (m : Int) (cnt ps : Int) ps (ff ps) HS.out (ff_le ps) (fun k hk => ff_tk hk) (fun h => ff_no h) (by omega) (by have := HU.out.lp; omega) HTB.out.1 (by have := HTB.out.2; omega) (by omega) (by omega)).mono ?_)
              rintro e w2 ⟨rfl, h2, f2⟩
              generalize turnOf ps (ff ps) = t0 at *
              generalize tookL ps (ff ps) = ps3 at *
              clear hfm
              generalize ff ps = p0 at *
              rw [show (cnt ps : Int) + 1 = (cnt ps3 : Int) by rw [HCT.out]; omega] at h2
              have B2 := below_alloc (Below.refl w2.heap.size w2) (.cells #[.int .i64 (p0 : Int), .int .i64 t0] 40)
              have HS4 := Lib.hid (h2.below B2)
              have HV4 := Lib.hid ((HR.fr HV.out f2).below B2)
              have HB4 := Lib.hid ((BR.fr HB.out f2).below B2)
              have HN4 := Lib.hid (show Hn (w2.alloc (.cells #[.int .i64 (p0 : Int), .int .i64 t0] 40)) w2.heap.size (p0 : Int) t0 from heap_alloc_new w2 _)
              clear h2 f2 B2 HS HV HB HU
              have dn : decide ((cnt ps : Int) < (m : Int)) = true := decide_eq_true cn0
              go_upto_region 19 with (fail)
              generalize w2.alloc (.cells #[.int .i64 (p0 : Int), .int .i64 t0] 40) = w4 at *
              go_wp2_with (fail)
              go_loopg [13] hs.length (fun gk2 v13 wr => ∃ j : Nat, v13 = .int .i64 (j : Int) ∧ j ≤ hs.length ∧ hs.length - j ≤ gk2 ∧ Hid (Below w4.heap.size w4 wr))
              case atStart => exact ⟨0, rfl, by omega, by omega, Below.refl _ _⟩
              case round =>
                obtain ⟨j, rfl, hj, hjk, HB2⟩ := hrel
                by_cases hjl : j < hs.length
                · have HV5 := Lib.hid (HR.below HV4.out HB2.out)
                  have HN5 := Lib.hid (show Hn _ _ _ _ from blk_below HN4.out HB2.out)
                  obtain ⟨ad6, c6', hv6⟩ := HR.form HV5.out (by omega)
                  injection hv6 with e1 _ e2
                  try injection e1 with e1
                  subst e1 e2
                  have o6 := HR.op HV5.out j hjl
                  have r0 := o6.x0
                  have r1 := o6.x1
                  have q0 := (blk_cell HN5.out 0).trans (show _ = some (Value.int .i64 (p0 : Int)) from rfl)
                  have q1 := (blk_cell HN5.out 1).trans (show _ = some (Value.int .i64 t0) from rfl)
                  have hold := HOLD.out j hjl
                  clear o6
                  generalize (hat hs j).f0 = p3 at *
                  generalize (hat hs j).f1 = t3 at *
                  have cj : (j : Int) < (hs.length : Int) := by omega
                  have cj0 : (0 : Int) ≤ (j : Int) := by omega
                  have cj9 : (j : Int) ≤ 100 := by have := LH.out; omega
                  by_cases hpp : p3 = (p0 : Int)
                  · have htt : (t3 == t0) = false := by
                      have := (hold hpp).2
                      have : t3 ≠ t0 := by omega
                      simpa using this
                    subst hpp
                    clear hold
                    go_wp2_with (fail)
                    go_quiet (fail)
                    have D : Below wr.heap.size wr (wr.drewN nq) := pw_below_drewN (Below.refl _ _) nq
                    go_wp2
                    go_roundg (hs.length - (j + 1))
                    case measure => omega
                    case rel => exact ⟨j + 1, by simp, by omega, by omega, below_step HB2.out D⟩
                  · have hpe : (p3 == (p0 : Int)) = false := by simpa using hpp
                    clear hold hpp
                    go_wp2_with (fail)
                    go_quiet (fail)
                    have D : Below wr.heap.size wr (wr.drewN nq) := pw_below_drewN (Below.refl _ _) nq
                    go_wp2
                    go_roundg (hs.length - (j + 1))
                    case measure => omega
                    case rel => exact ⟨j + 1, by simp, by omega, by omega, below_step HB2.out D⟩
                · obtain rfl : j = hs.length := by omega
                  have B5 := below_alloc HB2.out (.cells #[.int .i64 (p0 : Int), .int .i64 t0] 40)
                  have HS5 := Lib.hid (HS4.out.below HB2.out)
                  have HV5 := Lib.hid (HR.below HV4.out HB2.out)
                  have HB5 := Lib.hid (BR.below HB4.out HB2.out)
                  have HN5 := Lib.hid (show Hn _ _ _ _ from blk_below HN4.out HB2.out)
                  have q0 := (blk_cell HN5.out 0).trans (show _ = some (Value.int .i64 (p0 : Int)) from rfl)
                  have q1 := (blk_cell HN5.out 1).trans (show _ = some (Value.int .i64 t0) from rfl)
                  clear B5 hjl hjk hj HS4 HV4 HB4 HN4 HN5
                  have cb : (cnt ps : Int) ≤ 8 := by omega
                  go_upto_region 33 with (first | ((with_reducible refine gate_builtin (b := .append) (xs := #[.tmp 76, .tmp 78]) rfl ?_); at_builtin; refine Kd.R_append k40 (w0 := w) w.heap.size rfl (.tmp 76) (.tmp 78) 38 40 (.agg #[(.int .i64 0), (.int .i64 0)]) 16 rfl Tryd.underlying38 info40 rfl (by decide) (by decide) (.slice A6 hs.length c6) hs ⟨(p0 : Int), t0⟩ [.int .i64 (p0 : Int), .int .i64 t0] (fun _ => True) (fun _ => False) rfl ?aX ?aP (fun _ hk => hk.elim) ?aF ?aO ?aB ?aS ?aL ?_; (case aX => first | rfl | (go_simp; done) | (go_simp; rfl)); (case aP => exact k40_mkM _ _ _ ⟨(p0 : Int), t0⟩); (case aB => exact HS5.out.bl); (case aF => exact (fun _ _ => trivial)); (case aO => exact HV5.out); (case aS => exact HS5.out.bl.size); (case aL => (have := LH.out; omega)); intro v8 w8 ho hb hg hat; obtain ⟨A8, c8, hv8⟩ := Kd.R_slice ho; subst hv8; have HV8 := Lib.hid ho; have HS8 := Lib.hid (HS5.out.keeps (below_app40 HV5.out HS5.out.bl.size hg) (keeps_app40 HV5.out hg)); have HB8 := Lib.hid (BR.keeps HB5.out (keeps_app40 HV5.out hg)); generalize hs ++ [⟨(p0 : Int), t0⟩] = hs3 at *; clear ho hb hg hat HV5 HS5 HB5) | ((with_reducible refine gate_builtin (b := .append) (xs := #[.tmp 80, .tmp 81]) rfl ?_); at_builtin; refine Kd.R_append Kd.bool (w0 := w) w.heap.size rfl (.tmp 80) (.tmp 81) 54 4 (.bool false) 1 rfl Tryd.underlying54 info4 rfl (by decide) (by decide) (.slice A7 bs.length c7) bs true [.bool true] (fun _ => True) (fun _ => False) rfl ?bX ?bP (fun _ hk => hk.elim) ?bF ?bO ?bB ?bS ?bL ?_; (case bX => first | rfl | (go_simp; done) | (go_simp; rfl)); (case bP => exact rfl); (case bB => exact HS8.out.bl); (case bF => exact (fun _ _ => trivial)); (case bO => exact HB8.out); (case bS => exact HS8.out.bl.size); (case bL => (have := LBH.out; omega)); intro v9 w9 ho hb hg hat; obtain ⟨A9, c9, hv9⟩ := Kd.R_slice ho; subst hv9; have HB9 := Lib.hid ho; have HS9 := Lib.hid (HS8.out.keeps4 (below_app4 HB8.out HS8.out.bl.size hg) (keeps_app4 HB8.out hg)); have HV9 := Lib.hid (HR.keeps HV8.out (keeps_app4 HB8.out hg)); generalize bs ++ [true] = bs3 at *; clear ho hb hg hat HV8 HS8 HB8))
                  clear q0 q1
                  have HUz := HU2
                  clear HU2
                  go_wp2_with (fail)
                  go_loopg [15] hs3.length (fun gk3 v15 wr => ∃ j : Nat, v15 = .int .i64 (j : Int) ∧ j ≤ hs3.length ∧ hs3.length - j ≤ gk3 ∧ Hid (Below w9.heap.size w9 wr))
                  case atStart => exact ⟨0, rfl, by omega, by omega, Below.refl _ _⟩
                  case round =>
                    obtain ⟨j, rfl, hj, hjk, HB3⟩ := hrel
                    by_cases hjl : j < hs3.length
                    · have HS3 := Lib.hid (HS9.out.below HB3.out)
                      have HV3 := Lib.hid (HR.below HV9.out HB3.out)
                      have HB4 := Lib.hid (BR.below HB9.out HB3.out)
                      have LB := Lib.hid HUz.out.lb
                      obtain ⟨ad6, c6', hv6⟩ := HR.form HV3.out (by omega)
                      injection hv6 with e1 _ e2
                      try injection e1 with e1
                      subst e1 e2
                      obtain ⟨ad7, c7', hv7⟩ := BR.form HB4.out (by rw [LB.out]; omega)
                      injection hv7 with e1 _ e2
                      try injection e1 with e1
                      subst e1 e2
                      have o6 := HR.op HV3.out j hjl
                      have r0 := o6.x0
                      have r1 := o6.x1
                      have o7 := BR.op HB4.out j (by rw [LB.out]; exact hjl)
                      have b0 := o7.x0
                      have HC : Hid (∀ W', Below wr.heap.size wr W' → Calls Tryd.prog 22 #[.pointer (some ⟨g, 0, none⟩), .agg #[.int .i64 (hat hs3 j).f0, .int .i64 (hat hs3 j).f1]] W' fun e w' => e = .returned (.bool (bat bs3 j)) ∧ Below W'.heap.size W' w') := by
                        intro W' hb'
                        refine (has2 w W' g (m : Int) _ ps3 _ _ (HS3.out.below hb')).mono ?_
                        rintro e w' ⟨rfl, _, hb2⟩
                        exact ⟨by rw [HUz.out.th j hjl], hb2⟩
                      clear o6 o7
                      generalize (hat hs3 j).f0 = p3 at *
                      generalize (hat hs3 j).f1 = t3 at *
                      generalize bat bs3 j = b3 at *
                      have cj : (j : Int) < (hs3.length : Int) := by omega
                      have cj2 : (j : Int) < (bs3.length : Int) := by rw [LB.out]; omega
                      have cj0 : (0 : Int) ≤ (j : Int) := by omega
                      have cj9 : (j : Int) ≤ 100 := by have := HUz.out.lc; omega
                      have HK1 := Lib.hid (Below.refl wr.heap.size wr)
                      go_upto_region 36 with (fail)
                      go_cut [126] (fun v126 wc => v126 = .bool false ∧ Hid (Below wr.heap.size wr wc))
                      case first =>
                        go_region_held3 (fun w' => w'.cell? (ad6.add (j * 2)) = some (.int .i64 p3) ∧ w'.cell? ⟨(ad6.add (j * 2)).block, (ad6.add (j * 2)).off + 1, none⟩ = some (.int .i64 t3) ∧ w'.cell? (ad7.add j) = some (.bool b3)) (first | go_keep | exact ⟨r0, r1, b0⟩ | exact ⟨(HK2.out.cell (cell_lt r0)).trans r0, (HK2.out.cell (cell_lt r1)).trans r1, (HK2.out.cell (cell_lt b0)).trans b0⟩) (first | (go_at_call 22; (with_reducible refine (HC.out _ (by first | exact HK1.out | exact below_drew1 HK1.out)).mono ?_); rintro e wx ⟨rfl, hb⟩; first | (have HK2 := Lib.hid (below_step HK1.out hb)) | (have HK2 := Lib.hid (show Below wr.heap.size wr wx from below_step (below_drew1 HK1.out) hb))))
                        all_goals (
                          go_wp2
                          go_meet
                          case rel => exact ⟨by simp, HK2.out⟩)
                      case rest =>
                        obtain ⟨rfl, HBc⟩ := hcut
                        go_wp2
                        go_roundg (hs3.length - (j + 1))
                        case measure => omega
                        case rel => exact ⟨j + 1, by simp, by omega, by omega, below_step HB3.out HBc.out⟩
                    · obtain rfl : j = hs3.length := by omega
                      have HS3 := Lib.hid (HS9.out.below HB3.out)
                      have HV3 := Lib.hid (HR.below HV9.out HB3.out)
                      have HB4 := Lib.hid (BR.below HB9.out HB3.out)
                      clear hjl hjk hj
                      go_wp2
                      go_roundg (60 - (i + 1))
                      case measure => omega
                      case rel => exact ⟨i + 1, _, _, _, by simp, by first | rfl | (have := HCT.out; rw [this]; rfl) | (have := HCT.out; simp [this]), by omega, by omega, HUz.out, HS3.out, HV3.out, HB4.out⟩
          · have ho : (n % 2 == 1) = false := by simpa using hodd
            clear hodd
            cases hbk : bat bs k
            case false =>
              obtain ⟨p, hp, hpl, _⟩ := HU.out.pl k hkl
              obtain ⟨ad6, c6', hv6⟩ := HR.form HV.out (by omega)
              injection hv6 with e1 _ e2
              subst e1 e2
              have LB := Lib.hid HU.out.lb
              obtain ⟨ad7, c7', hv7⟩ := BR.form HB.out (by rw [LB.out]; omega)
              injection hv7 with e1 _ e2
              subst e1 e2
              have o6 := HR.op HV.out k hkl
              have r0 := o6.x0
              have r1 := o6.x1
              rw [hp] at r0
              clear o6
              have HTH := Lib.hid (HU.out.th k hkl)
              have ck : (k : Int) < (hs.length : Int) := by omega
              have ck2 : (k : Int) < (bs.length : Int) := by rw [LB.out]; omega
              have ck0 : (0 : Int) ≤ (k : Int) := by omega
              have LPm := Lib.hid HU.out.lp
              have cb0 : (cnt ps : Int) ≤ 8 := by have := cnt_le ps; have := HU.out.lp; omega
              have HU2 := Lib.hid HU.out.up
              have HHB := Lib.hid (show hasB ps (p : Int) (hat hs k).f1 = false by rw [← hp, ← HTH.out]; exact hbk)
              go_wp2_with (fail)
              go_at_call 17
              (with_reducible refine (no2 w _ HG.out g (m : Int) (cnt ps : Int) ps (p : Int) (hat hs k).f1 HS.out (by have := LPm.out; omega) HHB.out).mono ?_)
              rintro e w2 ⟨k2, rfl, hj2, h2, b2⟩
              have HS4 := Lib.hid h2
              have HV4 := Lib.hid (HR.below HV.out b2)
              have HB4 := Lib.hid (BR.below HB.out b2)
              clear h2 b2 hj2 HS HV HB r0 r1
              have o7 := BR.op HB4.out k (by rw [LB.out]; exact hkl)
              have b0 := o7.x0
              rw [hbk] at b0
              clear o7
              go_upto_region 28 with (fail)
              go_quiet (fail)
              have D : Below w2.heap.size w2 (w2.drewN nq) := pw_below_drewN (Below.refl _ _) nq
              have HS5 := Lib.hid (HS4.out.below D)
              have HV5 := Lib.hid (HR.below HV4.out D)
              have HB5 := Lib.hid (BR.below HB4.out D)
              clear HS4 HV4 HB4 D b0
              generalize w2.drewN nq = w5 at *
              have o7 := BR.op HB5.out k (by rw [LB.out]; exact hkl)
              have b0 := o7.x0
              rw [hbk] at b0
              have y0 := o7.y0
              have HP := Lib.hid (o7.put false)
              clear o7
              have hset : bs.set k false = bs := by
                apply List.ext_getElem?
                intro j
                rcases Nat.decEq k j with hne | rfl
                · rw [List.getElem?_set_ne hne]
                · have hk2 : k < bs.length := by rw [LB.out]; exact hkl
                  simp [bat, hk2] at hbk
                  simp [hk2, hbk]
              have HB6 : Hid (BR (w5.setCell (ad7.add k) (.bool false)) w.heap.size (.slice (some ad7) bs.length c7) bs) := Lib.hid (by have := HP.out.1; rw [hset] at this; exact this)
              have HS6 := Lib.hid (HS5.out.keeps4 HP.out.2.1 HP.out.2.2)
              have HV6 := Lib.hid (HR.keeps HV5.out HP.out.2.2)
              clear HP HS5 HV5 HB5 hset
              go_upto_region 33 with (fail)
              generalize w5.setCell (ad7.add k) (.bool false) = w6 at *
              clear b0 y0
              go_wp2_with (fail)
              go_loopg [15] hs.length (fun gk3 v15 wr => ∃ j : Nat, v15 = .int .i64 (j : Int) ∧ j ≤ hs.length ∧ hs.length - j ≤ gk3 ∧ Hid (Below w6.heap.size w6 wr))
              case atStart => exact ⟨0, rfl, by omega, by omega, Below.refl _ _⟩
              case round =>
                obtain ⟨j, rfl, hj, hjk, HB3⟩ := hrel
                by_cases hjl : j < hs.length
                · have HS3 := Lib.hid (HS6.out.below HB3.out)
                  have HV3 := Lib.hid (HR.below HV6.out HB3.out)
                  have HB4 := Lib.hid (BR.below HB6.out HB3.out)
                  have LB := Lib.hid HU2.out.lb
                  obtain ⟨ad6, c6', hv6⟩ := HR.form HV3.out (by omega)
                  injection hv6 with e1 _ e2
                  try injection e1 with e1
                  subst e1 e2
                  obtain ⟨ad7, c7', hv7⟩ := BR.form HB4.out (by rw [LB.out]; omega)
                  injection hv7 with e1 _ e2
                  try injection e1 with e1
                  subst e1 e2
                  have o6 := HR.op HV3.out j hjl
                  have r0 := o6.x0
                  have r1 := o6.x1
                  have o7 := BR.op HB4.out j (by rw [LB.out]; exact hjl)
                  have b0 := o7.x0
                  have HC : Hid (∀ W', Below wr.heap.size wr W' → Calls Tryd.prog 22 #[.pointer (some ⟨g, 0, none⟩), .agg #[.int .i64 (hat hs j).f0, .int .i64 (hat hs j).f1]] W' fun e w' => e = .returned (.bool (bat bs j)) ∧ Below W'.heap.size W' w') := by
                    intro W' hb'
                    refine (has2 w W' g (m : Int) _ ps _ _ (HS3.out.below hb')).mono ?_
                    rintro e w' ⟨rfl, _, hb2⟩
                    exact ⟨by rw [HU2.out.th j hjl], hb2⟩
                  clear o6 o7
                  generalize (hat hs j).f0 = p3 at *
                  generalize (hat hs j).f1 = t3 at *
                  generalize bat bs j = b3 at *
                  have cj : (j : Int) < (hs.length : Int) := by omega
                  have cj2 : (j : Int) < (bs.length : Int) := by rw [LB.out]; omega
                  have cj0 : (0 : Int) ≤ (j : Int) := by omega
                  have cj9 : (j : Int) ≤ 100 := by have := HU2.out.lc; omega
                  have HK1 := Lib.hid (Below.refl wr.heap.size wr)
                  go_upto_region 36 with (fail)
                  go_cut [126] (fun v126 wc => v126 = .bool false ∧ Hid (Below wr.heap.size wr wc))
                  case first =>
                    go_region_held3 (fun w' => w'.cell? (ad6.add (j * 2)) = some (.int .i64 p3) ∧ w'.cell? ⟨(ad6.add (j * 2)).block, (ad6.add (j * 2)).off + 1, none⟩ = some (.int .i64 t3) ∧ w'.cell? (ad7.add j) = some (.bool b3)) (first | go_keep | exact ⟨r0, r1, b0⟩ | exact ⟨(HK2.out.cell (cell_lt r0)).trans r0, (HK2.out.cell (cell_lt r1)).trans r1, (HK2.out.cell (cell_lt b0)).trans b0⟩) (first | (go_at_call 22; (with_reducible refine (HC.out _ (by first | exact HK1.out | exact below_drew1 HK1.out)).mono ?_); rintro e wx ⟨rfl, hb⟩; first | (have HK2 := Lib.hid (below_step HK1.out hb)) | (have HK2 := Lib.hid (show Below wr.heap.size wr wx from below_step (below_drew1 HK1.out) hb))))
                    all_goals (
                      go_wp2
                      go_meet
                      case rel => exact ⟨by simp, HK2.out⟩)
                  case rest =>
                    obtain ⟨rfl, HBc⟩ := hcut
                    go_wp2
                    go_roundg (hs.length - (j + 1))
                    case measure => omega
                    case rel => exact ⟨j + 1, by simp, by omega, by omega, below_step HB3.out HBc.out⟩
                · obtain rfl : j = hs.length := by omega
                  have HS3 := Lib.hid (HS6.out.below HB3.out)
                  have HV3 := Lib.hid (HR.below HV6.out HB3.out)
                  have HB4 := Lib.hid (BR.below HB6.out HB3.out)
                  clear hjl hjk hj
                  go_wp2
                  go_roundg (60 - (i + 1))
                  case measure => omega
                  case rel => exact ⟨i + 1, _, _, _, by simp, by first | rfl | (have := HCT.out; rw [this]; rfl) | (have := HCT.out; simp [this]), by omega, by omega, HU2.out, HS3.out, HV3.out, HB4.out⟩
            case true =>
              obtain ⟨p, hp, hpl, _⟩ := HU.out.pl k hkl
              obtain ⟨ad6, c6', hv6⟩ := HR.form HV.out (by omega)
              injection hv6 with e1 _ e2
              subst e1 e2
              have LB := Lib.hid HU.out.lb
              obtain ⟨ad7, c7', hv7⟩ := BR.form HB.out (by rw [LB.out]; omega)
              injection hv7 with e1 _ e2
              subst e1 e2
              have o6 := HR.op HV.out k hkl
              have r0 := o6.x0
              have r1 := o6.x1
              rw [hp] at r0
              clear o6
              have HTH := Lib.hid (HU.out.th k hkl)
              have ck : (k : Int) < (hs.length : Int) := by omega
              have ck2 : (k : Int) < (bs.length : Int) := by rw [LB.out]; omega
              have ck0 : (0 : Int) ≤ (k : Int) := by omega
              have LPm := Lib.hid HU.out.lp
              have cb0 : (cnt ps : Int) ≤ 8 := by have := cnt_le ps; have := HU.out.lp; omega
              have HT1 := Lib.hid (show (plc ps p).f1 = true by
                have := HTH.out
                rw [hbk, hp, hasB_at hpl] at this
                have := this.symm
                simp at this
                exact this.1)
              have HU2 := Lib.hid (HU.out.free hkl hp hpl hbk)
              have HCF := Lib.hid (show ((cnt (freed ps p) : Nat) : Int) = (cnt ps : Int) - 1 by have := cnt_freed hpl HT1.out; have := cnt_pos hpl HT1.out; omega)
              have HHB := Lib.hid (show hasB ps (p : Int) (hat hs k).f1 = true by rw [← hp, ← HTH.out]; exact hbk)
              go_wp2_with (fail)
              go_at_call 17
              (with_reducible refine (yes2 w _ g (m : Int) (cnt ps : Int) ps (p : Int) p (hat hs k).f1 rfl HS.out hpl HHB.out (by omega) (by omega)).mono ?_)
              rintro e w2 ⟨rfl, h2, f2⟩
              have HS4 : Hid (St w w2 g (m : Int) (freed ps p) ((cnt (freed ps p) : Nat) : Int)) := Lib.hid (by rw [HCF.out]; exact h2)
              have HV4 := Lib.hid (HR.fr HV.out f2)
              have HB4 := Lib.hid (BR.fr HB.out f2)
              clear h2 f2 HS HV HB r0 r1
              have o7 := BR.op HB4.out k (by rw [LB.out]; exact hkl)
              have b0 := o7.x0
              rw [hbk] at b0
              clear o7
              go_upto_region 28 with (fail)
              go_quiet (fail)
              have D : Below w2.heap.size w2 (w2.drewN nq) := pw_below_drewN (Below.refl _ _) nq
              have HS5 := Lib.hid (HS4.out.below D)
              have HV5 := Lib.hid (HR.below HV4.out D)
              have HB5 := Lib.hid (BR.below HB4.out D)
              clear HS4 HV4 HB4 D b0
              generalize w2.drewN nq = w5 at *
              have o7 := BR.op HB5.out k (by rw [LB.out]; exact hkl)
              have b0 := o7.x0
              rw [hbk] at b0
              have y0 := o7.y0
              have HP := Lib.hid (o7.put false)
              clear o7
              have HB6 : Hid (BR (w5.setCell (ad7.add k) (.bool false)) w.heap.size (.slice (some ad7) (bs.set k false).length c7) (bs.set k false)) := Lib.hid (by rw [List.length_set]; exact HP.out.1)
              have HS6 := Lib.hid (HS5.out.keeps4 HP.out.2.1 HP.out.2.2)
              have HV6 := Lib.hid (HR.keeps HV5.out HP.out.2.2)
              clear HP HS5 HV5 HB5
              go_upto_region 33 with (fail)
              rw [← HCF.out]
              generalize w5.setCell (ad7.add k) (.bool false) = w6 at *
              clear b0 y0
              rw [show bs.length = (bs.set k false).length from List.length_set.symm]
              generalize bs.set k false = bs3 at *
              generalize freed ps p = ps3 at *
              go_wp2_with (fail)
              go_loopg [15] hs.length (fun gk3 v15 wr => ∃ j : Nat, v15 = .int .i64 (j : Int) ∧ j ≤ hs.length ∧ hs.length - j ≤ gk3 ∧ Hid (Below w6.heap.size w6 wr))
              case atStart => exact ⟨0, rfl, by omega, by omega, Below.refl _ _⟩
              case round =>
                obtain ⟨j, rfl, hj, hjk, HB3⟩ := hrel
                by_cases hjl : j < hs.length
                · have HS3 := Lib.hid (HS6.out.below HB3.out)
                  have HV3 := Lib.hid (HR.below HV6.out HB3.out)
                  have HB4 := Lib.hid (BR.below HB6.out HB3.out)
                  have LB := Lib.hid HU2.out.lb
                  obtain ⟨ad6, c6', hv6⟩ := HR.form HV3.out (by omega)
                  injection hv6 with e1 _ e2
                  try injection e1 with e1
                  subst e1 e2
                  obtain ⟨ad7, c7', hv7⟩ := BR.form HB4.out (by rw [LB.out]; omega)
                  injection hv7 with e1 _ e2
                  try injection e1 with e1
                  subst e1 e2
                  have o6 := HR.op HV3.out j hjl
                  have r0 := o6.x0
                  have r1 := o6.x1
                  have o7 := BR.op HB4.out j (by rw [LB.out]; exact hjl)
                  have b0 := o7.x0
                  have HC : Hid (∀ W', Below wr.heap.size wr W' → Calls Tryd.prog 22 #[.pointer (some ⟨g, 0, none⟩), .agg #[.int .i64 (hat hs j).f0, .int .i64 (hat hs j).f1]] W' fun e w' => e = .returned (.bool (bat bs3 j)) ∧ Below W'.heap.size W' w') := by
                    intro W' hb'
                    refine (has2 w W' g (m : Int) _ ps3 _ _ (HS3.out.below hb')).mono ?_
                    rintro e w' ⟨rfl, _, hb2⟩
                    exact ⟨by rw [HU2.out.th j hjl], hb2⟩
                  clear o6 o7
                  generalize (hat hs j).f0 = p3 at *
                  generalize (hat hs j).f1 = t3 at *
                  generalize bat bs3 j = b3 at *
                  have cj : (j : Int) < (hs.length : Int) := by omega
                  have cj2 : (j : Int) < (bs3.length : Int) := by rw [LB.out]; omega
                  have cj0 : (0 : Int) ≤ (j : Int) := by omega
                  have cj9 : (j : Int) ≤ 100 := by have := HU2.out.lc; omega
                  have HK1 := Lib.hid (Below.refl wr.heap.size wr)
                  go_upto_region 36 with (fail)
                  go_cut [126] (fun v126 wc => v126 = .bool false ∧ Hid (Below wr.heap.size wr wc))
                  case first =>
                    go_region_held3 (fun w' => w'.cell? (ad6.add (j * 2)) = some (.int .i64 p3) ∧ w'.cell? ⟨(ad6.add (j * 2)).block, (ad6.add (j * 2)).off + 1, none⟩ = some (.int .i64 t3) ∧ w'.cell? (ad7.add j) = some (.bool b3)) (first | go_keep | exact ⟨r0, r1, b0⟩ | exact ⟨(HK2.out.cell (cell_lt r0)).trans r0, (HK2.out.cell (cell_lt r1)).trans r1, (HK2.out.cell (cell_lt b0)).trans b0⟩) (first | (go_at_call 22; (with_reducible refine (HC.out _ (by first | exact HK1.out | exact below_drew1 HK1.out)).mono ?_); rintro e wx ⟨rfl, hb⟩; first | (have HK2 := Lib.hid (below_step HK1.out hb)) | (have HK2 := Lib.hid (show Below wr.heap.size wr wx from below_step (below_drew1 HK1.out) hb))))
                    all_goals (
                      go_wp2
                      go_meet
                      case rel => exact ⟨by simp, HK2.out⟩)
                  case rest =>
                    obtain ⟨rfl, HBc⟩ := hcut
                    go_wp2
                    go_roundg (hs.length - (j + 1))
                    case measure => omega
                    case rel => exact ⟨j + 1, by simp, by omega, by omega, below_step HB3.out HBc.out⟩
                · obtain rfl : j = hs.length := by omega
                  have HS3 := Lib.hid (HS6.out.below HB3.out)
                  have HV3 := Lib.hid (HR.below HV6.out HB3.out)
                  have HB4 := Lib.hid (BR.below HB6.out HB3.out)
                  clear hjl hjk hj
                  go_wp2
                  go_roundg (60 - (i + 1))
                  case measure => omega
                  case rel => exact ⟨i + 1, _, _, _, by simp, by first | rfl | (have := HCT.out; rw [this]; rfl) | (have := HCT.out; simp [this]), by omega, by omega, HU2.out, HS3.out, HV3.out, HB4.out⟩
        · have ch0 : ¬ ((0 : Int) < (hs.length : Int)) := by omega
          by_cases hodd : n % 2 = 1
          · have ho : (n % 2 == 1) = true := by simpa using hodd
            clear hodd
            by_cases hfull : ff ps = m
            · have hlm : ps.length = m := by have := ff_le ps; have := HU.out.lp; omega
              have hcm : cnt ps = m := by rw [cnt_all (by omega)]; exact hlm
              have HSf : Hid (St w wr g ((ff ps : Nat) : Int) ps (cnt ps : Int)) := Lib.hid (by rw [hfull]; exact HS.out)
              have HU2 := Lib.hid HU.out.up
              have cn0 : ¬ ((cnt ps : Int) < (m : Int)) := by omega
              have dn : decide ((cnt ps : Int) < (m : Int)) = false := decide_eq_false cn0
              have LPf := Lib.hid (show ps.length ≤ 1000 by omega)
              clear hlm hcm
              go_wp2_with (fail)
              go_at_call 16
              (with_reducible refine (full2 w _ HG.out g (cnt ps : Int) ps (ff ps) HSf.out (ff_le ps) (fun k hk => ff_tk hk) (fun h => ff_no h) LPf.out).mono ?_)
              rintro e w2 ⟨k2, rfl, hj2, h2, b2⟩
              rw [hfull] at h2
              have B2 := below_alloc (Below.refl w2.heap.size w2) (.cells #[.int .i64 0, .int .i64 0] 40)
              have HS4 := Lib.hid (h2.below B2)
              have HV4 := Lib.hid ((HR.below HV.out b2).below B2)
              have HB4 := Lib.hid ((BR.below HB.out b2).below B2)
              clear h2 b2 hj2 B2 HS HSf HV HB
              go_wp2
              go_roundg (60 - (i + 1))
              case measure => omega
              case rel => exact ⟨i + 1, _, _, _, by simp, rfl, by omega, by omega, HU2.out, HS4.out, HV4.out, HB4.out⟩
            · have hcm : cnt ps < m := by
                rcases Nat.lt_or_ge (ff ps) ps.length with hl | hl
                · have := cnt_no hl (ff_no hl); have := HU.out.lp; omega
                · have := cnt_le ps; have := ff_le ps; have := HU.out.lp; omega
              have hfm : ff ps < m := by have := ff_le ps; have := HU.out.lp; omega
              have HU2 := Lib.hid (HU.out.take (ff_le ps) (fun h => ff_no h) hfm)
              have HCT := Lib.hid (cnt_took (ff ps) (ff_le ps) (fun h => ff_no h))
              have HTB := Lib.hid (HU.out.bound (ff_le ps))
              have HOLD := Lib.hid (fun (k : Nat) (hk : k < hs.length) => HU.out.old (i := ff ps) hk)
              have LBH := Lib.hid (show bs.length ≤ 60 by rw [HU.out.lb]; have := HU.out.lc; omega)
              have LH := Lib.hid (show hs.length ≤ 60 by have := HU.out.lc; omega)
              have cn0 : (cnt ps : Int) < (m : Int) := by omega
              have cn1 : (0 : Int) ≤ (cnt ps : Int) := by omega
              clear hcm
              go_wp2_with (fail)
              go_at_call 16
              (with_reducible refine (take2 w _ g (m : Int) (cnt ps : Int) ps (ff ps) HS.out (ff_le ps) (fun k hk => ff_tk hk) (fun h => ff_no h) (by omega) (by have := HU.out.lp; omega) HTB.out.1 (by have := HTB.out.2; omega) (by omega) (by omega)).mono ?_)
              rintro e w2 ⟨rfl, h2, f2⟩
              generalize turnOf ps (ff ps) = t0 at *
              generalize tookL ps (ff ps) = ps3 at *
              clear hfm
              generalize ff ps = p0 at *
              rw [show (cnt ps : Int) + 1 = (cnt ps3 : Int) by rw [HCT.out]; omega] at h2
              have B2 := below_alloc (Below.refl w2.heap.size w2) (.cells #[.int .i64 (p0 : Int), .int .i64 t0] 40)
              have HS4 := Lib.hid (h2.below B2)
              have HV4 := Lib.hid ((HR.fr HV.out f2).below B2)
              have HB4 := Lib.hid ((BR.fr HB.out f2).below B2)
              have HN4 := Lib.hid (show Hn (w2.alloc (.cells #[.int .i64 (p0 : Int), .int .i64 t0] 40)) w2.heap.size (p0 : Int) t0 from heap_alloc_new w2 _)
              clear h2 f2 B2 HS HV HB HU
              have dn : decide ((cnt ps : Int) < (m : Int)) = true := decide_eq_true cn0
              go_upto_region 19 with (fail)
              generalize w2.alloc (.cells #[.int .i64 (p0 : Int), .int .i64 t0] 40) = w4 at *
              go_wp2_with (fail)
              go_loopg [13] hs.length (fun gk2 v13 wr => ∃ j : Nat, v13 = .int .i64 (j : Int) ∧ j ≤ hs.length ∧ hs.length - j ≤ gk2 ∧ Hid (Below w4.heap.size w4 wr))
              case atStart => exact ⟨0, rfl, by omega, by omega, Below.refl _ _⟩
              case round =>
                obtain ⟨j, rfl, hj, hjk, HB2⟩ := hrel
                by_cases hjl : j < hs.length
                · have HV5 := Lib.hid (HR.below HV4.out HB2.out)
                  have HN5 := Lib.hid (show Hn _ _ _ _ from blk_below HN4.out HB2.out)
                  obtain ⟨ad6, c6', hv6⟩ := HR.form HV5.out (by omega)
                  injection hv6 with e1 _ e2
                  try injection e1 with e1
                  subst e1 e2
                  have o6 := HR.op HV5.out j hjl
                  have r0 := o6.x0
                  have r1 := o6.x1
                  have q0 := (blk_cell HN5.out 0).trans (show _ = some (Value.int .i64 (p0 : Int)) from rfl)
                  have q1 := (blk_cell HN5.out 1).trans (show _ = some (Value.int .i64 t0) from rfl)
                  have hold := HOLD.out j hjl
                  clear o6
                  generalize (hat hs j).f0 = p3 at *
                  generalize (hat hs j).f1 = t3 at *
                  have cj : (j : Int) < (hs.length : Int) := by omega
                  have cj0 : (0 : Int) ≤ (j : Int) := by omega
                  have cj9 : (j : Int) ≤ 100 := by have := LH.out; omega
                  by_cases hpp : p3 = (p0 : Int)
                  · have htt : (t3 == t0) = false := by
                      have := (hold hpp).2
                      have : t3 ≠ t0 := by omega
                      simpa using this
                    subst hpp
                    clear hold
                    go_wp2_with (fail)
                    go_quiet (fail)
                    have D : Below wr.heap.size wr (wr.drewN nq) := pw_below_drewN (Below.refl _ _) nq
                    go_wp2
                    go_roundg (hs.length - (j + 1))
                    case measure => omega
                    case rel => exact ⟨j + 1, by simp, by omega, by omega, below_step HB2.out D⟩
                  · have hpe : (p3 == (p0 : Int)) = false := by simpa using hpp
                    clear hold hpp
                    go_wp2_with (fail)
                    go_quiet (fail)
                    have D : Below wr.heap.size wr (wr.drewN nq) := pw_below_drewN (Below.refl _ _) nq
                    go_wp2
                    go_roundg (hs.length - (j + 1))
                    case measure => omega
                    case rel => exact ⟨j + 1, by simp, by omega, by omega, below_step HB2.out D⟩
                · obtain rfl : j = hs.length := by omega
                  have B5 := below_alloc HB2.out (.cells #[.int .i64 (p0 : Int), .int .i64 t0] 40)
                  have HS5 := Lib.hid (HS4.out.below HB2.out)
                  have HV5 := Lib.hid (HR.below HV4.out HB2.out)
                  have HB5 := Lib.hid (BR.below HB4.out HB2.out)
                  have HN5 := Lib.hid (show Hn _ _ _ _ from blk_below HN4.out HB2.out)
                  have q0 := (blk_cell HN5.out 0).trans (show _ = some (Value.int .i64 (p0 : Int)) from rfl)
                  have q1 := (blk_cell HN5.out 1).trans (show _ = some (Value.int .i64 t0) from rfl)
                  clear B5 hjl hjk hj HS4 HV4 HB4 HN4 HN5
                  have cb : (cnt ps : Int) ≤ 8 := by omega
                  go_upto_region 33 with (first | ((with_reducible refine gate_builtin (b := .append) (xs := #[.tmp 76, .tmp 78]) rfl ?_); at_builtin; refine Kd.R_append k40 (w0 := w) w.heap.size rfl (.tmp 76) (.tmp 78) 38 40 (.agg #[(.int .i64 0), (.int .i64 0)]) 16 rfl Tryd.underlying38 info40 rfl (by decide) (by decide) (.slice A6 hs.length c6) hs ⟨(p0 : Int), t0⟩ [.int .i64 (p0 : Int), .int .i64 t0] (fun _ => True) (fun _ => False) rfl ?aX ?aP (fun _ hk => hk.elim) ?aF ?aO ?aB ?aS ?aL ?_; (case aX => first | rfl | (go_simp; done) | (go_simp; rfl)); (case aP => exact k40_mkM _ _ _ ⟨(p0 : Int), t0⟩); (case aB => exact HS5.out.bl); (case aF => exact (fun _ _ => trivial)); (case aO => exact HV5.out); (case aS => exact HS5.out.bl.size); (case aL => (have := LH.out; omega)); intro v8 w8 ho hb hg hat; obtain ⟨A8, c8, hv8⟩ := Kd.R_slice ho; subst hv8; have HV8 := Lib.hid ho; have HS8 := Lib.hid (HS5.out.keeps (below_app40 HV5.out HS5.out.bl.size hg) (keeps_app40 HV5.out hg)); have HB8 := Lib.hid (BR.keeps HB5.out (keeps_app40 HV5.out hg)); generalize hs ++ [⟨(p0 : Int), t0⟩] = hs3 at *; clear ho hb hg hat HV5 HS5 HB5) | ((with_reducible refine gate_builtin (b := .append) (xs := #[.tmp 80, .tmp 81]) rfl ?_); at_builtin; refine Kd.R_append Kd.bool (w0 := w) w.heap.size rfl (.tmp 80) (.tmp 81) 54 4 (.bool false) 1 rfl Tryd.underlying54 info4 rfl (by decide) (by decide) (.slice A7 bs.length c7) bs true [.bool true] (fun _ => True) (fun _ => False) rfl ?bX ?bP (fun _ hk => hk.elim) ?bF ?bO ?bB ?bS ?bL ?_; (case bX => first | rfl | (go_simp; done) | (go_simp; rfl)); (case bP => exact rfl); (case bB => exact HS8.out.bl); (case bF => exact (fun _ _ => trivial)); (case bO => exact HB8.out); (case bS => exact HS8.out.bl.size); (case bL => (have := LBH.out; omega)); intro v9 w9 ho hb hg hat; obtain ⟨A9, c9, hv9⟩ := Kd.R_slice ho; subst hv9; have HB9 := Lib.hid ho; have HS9 := Lib.hid (HS8.out.keeps4 (below_app4 HB8.out HS8.out.bl.size hg) (keeps_app4 HB8.out hg)); have HV9 := Lib.hid (HR.keeps HV8.out (keeps_app4 HB8.out hg)); generalize bs ++ [true] = bs3 at *; clear ho hb hg hat HV8 HS8 HB8))
                  clear q0 q1
                  have HUz := HU2
                  clear HU2
                  go_wp2_with (fail)
                  go_loopg [15] hs3.length (fun gk3 v15 wr => ∃ j : Nat, v15 = .int .i64 (j : Int) ∧ j ≤ hs3.length ∧ hs3.length - j ≤ gk3 ∧ Hid (Below w9.heap.size w9 wr))
                  case atStart => exact ⟨0, rfl, by omega, by omega, Below.refl _ _⟩
                  case round =>
                    obtain ⟨j, rfl, hj, hjk, HB3⟩ := hrel
                    by_cases hjl : j < hs3.length
                    · have HS3 := Lib.hid (HS9.out.below HB3.out)
                      have HV3 := Lib.hid (HR.below HV9.out HB3.out)
                      have HB4 := Lib.hid (BR.below HB9.out HB3.out)
                      have LB := Lib.hid HUz.out.lb
                      obtain ⟨ad6, c6', hv6⟩ := HR.form HV3.out (by omega)
                      injection hv6 with e1 _ e2
                      try injection e1 with e1
                      subst e1 e2
                      obtain ⟨ad7, c7', hv7⟩ := BR.form HB4.out (by rw [LB.out]; omega)
                      injection hv7 with e1 _ e2
                      try injection e1 with e1
                      subst e1 e2
                      have o6 := HR.op HV3.out j hjl
                      have r0 := o6.x0
                      have r1 := o6.x1
                      have o7 := BR.op HB4.out j (by rw [LB.out]; exact hjl)
                      have b0 := o7.x0
                      have HC : Hid (∀ W', Below wr.heap.size wr W' → Calls Tryd.prog 22 #[.pointer (some ⟨g, 0, none⟩), .agg #[.int .i64 (hat hs3 j).f0, .int .i64 (hat hs3 j).f1]] W' fun e w' => e = .returned (.bool (bat bs3 j)) ∧ Below W'.heap.size W' w') := by
                        intro W' hb'
                        refine (has2 w W' g (m : Int) _ ps3 _ _ (HS3.out.below hb')).mono ?_
                        rintro e w' ⟨rfl, _, hb2⟩
                        exact ⟨by rw [HUz.out.th j hjl], hb2⟩
                      clear o6 o7
                      generalize (hat hs3 j).f0 = p3 at *
                      generalize (hat hs3 j).f1 = t3 at *
                      generalize bat bs3 j = b3 at *
                      have cj : (j : Int) < (hs3.length : Int) := by omega
                      have cj2 : (j : Int) < (bs3.length : Int) := by rw [LB.out]; omega
                      have cj0 : (0 : Int) ≤ (j : Int) := by omega
                      have cj9 : (j : Int) ≤ 100 := by have := HUz.out.lc; omega
                      have HK1 := Lib.hid (Below.refl wr.heap.size wr)
                      go_upto_region 36 with (fail)
                      go_cut [126] (fun v126 wc => v126 = .bool false ∧ Hid (Below wr.heap.size wr wc))
                      case first =>
                        go_region_held3 (fun w' => w'.cell? (ad6.add (j * 2)) = some (.int .i64 p3) ∧ w'.cell? ⟨(ad6.add (j * 2)).block, (ad6.add (j * 2)).off + 1, none⟩ = some (.int .i64 t3) ∧ w'.cell? (ad7.add j) = some (.bool b3)) (first | go_keep | exact ⟨r0, r1, b0⟩ | exact ⟨(HK2.out.cell (cell_lt r0)).trans r0, (HK2.out.cell (cell_lt r1)).trans r1, (HK2.out.cell (cell_lt b0)).trans b0⟩) (first | (go_at_call 22; (with_reducible refine (HC.out _ (by first | exact HK1.out | exact below_drew1 HK1.out)).mono ?_); rintro e wx ⟨rfl, hb⟩; first | (have HK2 := Lib.hid (below_step HK1.out hb)) | (have HK2 := Lib.hid (show Below wr.heap.size wr wx from below_step (below_drew1 HK1.out) hb))))
                        all_goals (
                          go_wp2
                          go_meet
                          case rel => exact ⟨by simp, HK2.out⟩)
                      case rest =>
                        obtain ⟨rfl, HBc⟩ := hcut
                        go_wp2
                        go_roundg (hs3.length - (j + 1))
                        case measure => omega
                        case rel => exact ⟨j + 1, by simp, by omega, by omega, below_step HB3.out HBc.out⟩
                    · obtain rfl : j = hs3.length := by omega
                      have HS3 := Lib.hid (HS9.out.below HB3.out)
                      have HV3 := Lib.hid (HR.below HV9.out HB3.out)
                      have HB4 := Lib.hid (BR.below HB9.out HB3.out)
                      clear hjl hjk hj
                      go_wp2
                      go_roundg (60 - (i + 1))
                      case measure => omega
                      case rel => exact ⟨i + 1, _, _, _, by simp, by first | rfl | (have := HCT.out; rw [this]; rfl) | (have := HCT.out; simp [this]), by omega, by omega, HUz.out, HS3.out, HV3.out, HB4.out⟩
          · have ho : (n % 2 == 1) = false := by simpa using hodd
            clear hodd
            have HU2 := Lib.hid HU.out.up
            go_upto_region 33 with (fail)
            generalize wr = W0 at *
            go_wp2_with (fail)
            go_loopg [15] hs.length (fun gk3 v15 wr => ∃ j : Nat, v15 = .int .i64 (j : Int) ∧ j ≤ hs.length ∧ hs.length - j ≤ gk3 ∧ Hid (Below W0.heap.size W0 wr))
            case atStart => exact ⟨0, rfl, by omega, by omega, Below.refl _ _⟩
            case round =>
              obtain ⟨j, rfl, hj, hjk, HB3⟩ := hrel
              by_cases hjl : j < hs.length
              · have HS3 := Lib.hid (HS.out.below HB3.out)
                have HV3 := Lib.hid (HR.below HV.out HB3.out)
                have HB4 := Lib.hid (BR.below HB.out HB3.out)
                have LB := Lib.hid HU2.out.lb
                obtain ⟨ad6, c6', hv6⟩ := HR.form HV3.out (by omega)
                injection hv6 with e1 _ e2
                try injection e1 with e1
                subst e1 e2
                obtain ⟨ad7, c7', hv7⟩ := BR.form HB4.out (by rw [LB.out]; omega)
                injection hv7 with e1 _ e2
                try injection e1 with e1
                subst e1 e2
                have o6 := HR.op HV3.out j hjl
                have r0 := o6.x0
                have r1 := o6.x1
                have o7 := BR.op HB4.out j (by rw [LB.out]; exact hjl)
                have b0 := o7.x0
                have HC : Hid (∀ W', Below wr.heap.size wr W' → Calls Tryd.prog 22 #[.pointer (some ⟨g, 0, none⟩), .agg #[.int .i64 (hat hs j).f0, .int .i64 (hat hs j).f1]] W' fun e w' => e = .returned (.bool (bat bs j)) ∧ Below W'.heap.size W' w') := by
                  intro W' hb'
                  refine (has2 w W' g (m : Int) _ ps _ _ (HS3.out.below hb')).mono ?_
                  rintro e w' ⟨rfl, _, hb2⟩
                  exact ⟨by rw [HU2.out.th j hjl], hb2⟩
                clear o6 o7
                generalize (hat hs j).f0 = p3 at *
                generalize (hat hs j).f1 = t3 at *
                generalize bat bs j = b3 at *
                have cj : (j : Int) < (hs.length : Int) := by omega
                have cj2 : (j : Int) < (bs.length : Int) := by rw [LB.out]; omega
                have cj0 : (0 : Int) ≤ (j : Int) := by omega
                have cj9 : (j : Int) ≤ 100 := by have := HU2.out.lc; omega
                have HK1 := Lib.hid (Below.refl wr.heap.size wr)
                go_upto_region 36 with (fail)
                go_cut [126] (fun v126 wc => v126 = .bool false ∧ Hid (Below wr.heap.size wr wc))
                case first =>
                  go_region_held3 (fun w' => w'.cell? (ad6.add (j * 2)) = some (.int .i64 p3) ∧ w'.cell? ⟨(ad6.add (j * 2)).block, (ad6.add (j * 2)).off + 1, none⟩ = some (.int .i64 t3) ∧ w'.cell? (ad7.add j) = some (.bool b3)) (first | go_keep | exact ⟨r0, r1, b0⟩ | exact ⟨(HK2.out.cell (cell_lt r0)).trans r0, (HK2.out.cell (cell_lt r1)).trans r1, (HK2.out.cell (cell_lt b0)).trans b0⟩) (first | (go_at_call 22; (with_reducible refine (HC.out _ (by first | exact HK1.out | exact below_drew1 HK1.out)).mono ?_); rintro e wx ⟨rfl, hb⟩; first | (have HK2 := Lib.hid (below_step HK1.out hb)) | (have HK2 := Lib.hid (show Below wr.heap.size wr wx from below_step (below_drew1 HK1.out) hb))))
                  all_goals (
                    go_wp2
                    go_meet
                    case rel => exact ⟨by simp, HK2.out⟩)
                case rest =>
                  obtain ⟨rfl, HBc⟩ := hcut
                  go_wp2
                  go_roundg (hs.length - (j + 1))
                  case measure => omega
                  case rel => exact ⟨j + 1, by simp, by omega, by omega, below_step HB3.out HBc.out⟩
              · obtain rfl : j = hs.length := by omega
                have HS3 := Lib.hid (HS.out.below HB3.out)
                have HV3 := Lib.hid (HR.below HV.out HB3.out)
                have HB4 := Lib.hid (BR.below HB.out HB3.out)
                clear hjl hjk hj
                go_wp2
                go_roundg (60 - (i + 1))
                case measure => omega
                case rel => exact ⟨i + 1, _, _, _, by simp, by first | rfl | (have := HCT.out; rw [this]; rfl) | (have := HCT.out; simp [this]), by omega, by omega, HU2.out, HS3.out, HV3.out, HB4.out⟩
      · have c0 : ¬ ((i : Int) < (len : Int)) := by omega
        go_wp2_with (fail)
        go_at_call 18
        (with_reducible refine (len2 w _ g _ _ _ HS.out).mono ?_)
        rintro e wz ⟨rfl, rfl⟩
        go_wp2_with (fail)
        go_at_call 19
        (with_reducible refine (awake_calls _ (HS.out.good HG.out)).mono ?_)
        rintro e wz ⟨rfl, bz⟩
        have HBz := Lib.hid (below_step HS.out.bl bz)
        clear bz
        go_wp2
        go_ret
        exact ⟨rfl, HBz.out⟩
    · obtain rfl : i = 60 := by omega
      by_cases hlen : 60 < len
      · have c0 : (60 : Int) < (len : Int) := by omega
        go_wp2_with (fail)
        go_at_call 18
        (with_reducible refine (len2 w _ g _ _ _ HS.out).mono ?_)
        rintro e wz ⟨rfl, rfl⟩
        go_wp2_with (fail)
        go_at_call 19
        (with_reducible refine (awake_calls _ (HS.out.good HG.out)).mono ?_)
        rintro e wz ⟨rfl, bz⟩
        have HBz := Lib.hid (below_step HS.out.bl bz)
        clear bz
        go_wp2
        go_ret
        exact ⟨rfl, HBz.out⟩
      · have c0 : ¬ ((60 : Int) < (len : Int)) := by omega
        go_wp2_with (fail)
        go_at_call 18
        (with_reducible refine (len2 w _ g _ _ _ HS.out).mono ?_)
        rintro e wz ⟨rfl, rfl⟩
        go_wp2_with (fail)
        go_at_call 19
        (with_reducible refine (awake_calls _ (HS.out.good HG.out)).mono ?_)
        rintro e wz ⟨rfl, bz⟩
        have HBz := Lib.hid (below_step HS.out.bl bz)
        clear bz
        go_wp2
        go_ret
        exact ⟨rfl, HBz.out⟩
end Go.Proofs.YtphaaagcdjpceaaDoor
