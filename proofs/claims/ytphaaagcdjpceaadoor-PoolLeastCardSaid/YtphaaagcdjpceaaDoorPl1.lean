/- The walk of PoolLeast. -/
import Derived.Test.YtphaaagcdjpceaaDoorPo9
namespace Go.Proofs.YtphaaagcdjpceaaDoor
open Go.RowKit Go.Extern.Stop Go.Stop Go.Extern Go.Proofs.YtphaaagcdjpceaaDoorW.PrintWords Go.Proofs.YtphaaagcdjpceaaDoorW.PrintLast Go.Proofs.YtphaaagcdjpceaaDoorW.PrintMore
set_option linter.unusedVariables false
set_option maxHeartbeats 8000000 in
set_option maxRecDepth 100000 in
theorem least_walk (a : Int) (A : Option Addr) (len cap : Nat) (zs : List Int) (w : World) (hG : Good w) (hi : InRow w A len cap zs) : Calls Tryd.prog 4 #[.int .i64 a, .slice A len cap] w fun e w' => e = .returned (.bool true) ∧ Below w.heap.size w w' := by
  have HG := Lib.hid hG
  have HI := Lib.hid hi
  have qa : Go.bits .and .i64 a 7 = a % 8 := and_mask a 3 (by decide)
  clear hG hi
  go_enter Tryd.func4, Tryd.ntmps4
  go_wp2_with (fail)
  obtain ⟨m, hm, hm1, hm2⟩ : ∃ m : Nat, a % 8 + 1 = (m : Int) ∧ 1 ≤ m ∧ m ≤ 8 := ⟨(a % 8 + 1).toNat, by omega, by omega, by omega⟩
  rw [hm]
  have HQ := Lib.hid qa; have HM := Lib.hid hm
  clear qa hm
  go_at_call 15
  (with_reducible refine (new_calls2 (m : Int) _).mono ?_)
  rintro e w1 ⟨rfl, h1⟩
  rw [show min (max (m : Int) 0) 10000 = (m : Int) from by omega] at h1
  have H1 := Lib.hid h1
  generalize w.heap.size = g at *
  clear h1
  go_wp2_with (fail)
  go_loopg [6, 7] m (fun gk v6 v7 wr => ∃ (j : Nat) (ps : List S108) (hs : List S40), v7 = .int .i64 (j : Int) ∧ j ≤ m ∧ m - j ≤ gk ∧ Hid (Als ps hs 0 j) ∧ Hid (St w wr g (m : Int) ps (j : Int)) ∧ Hid (HR wr w.heap.size v6 hs))
  case atStart => exact ⟨0, [], [], rfl, by omega, by omega, Als.zero, H1.out, Kd.R_nil _ _ _ _ _⟩
  case round =>
    obtain ⟨j, ps, hs, rfl, hj, hk, HA, HS, HV⟩ := hrel
    obtain ⟨A6, c6, rfl⟩ := Kd.R_slice HV.out
    by_cases hlt : j < m
    · have lp := HA.out.lp
      have et : turnOf ps j = 1 := by rw [← lp]; exact turnOf_out ps
      have el : tookL ps j = ps ++ [⟨1, true⟩] := by rw [← lp]; exact tookL_out ps
      have ET := Lib.hid et; have EL := Lib.hid el; have LP := Lib.hid lp
      clear lp et el
      have cj : (j : Int) < (m : Int) := by omega
      go_wp2_with (fail)
      go_at_call 16
      (with_reducible refine (take2 w _ g (m : Int) (j : Int) ps j HS.out (by rw [LP.out]; exact Nat.le_refl _) (fun k hk => HA.out.tk k hk) (fun h => absurd h (by rw [LP.out]; exact Nat.lt_irrefl _)) (by omega) (by rw [LP.out]; omega) (by rw [ET.out]; decide) (by rw [ET.out]; decide) (by omega) (by omega)).mono ?_)
      rintro e w2 ⟨rfl, h2, f2⟩
      rw [ET.out]
      rw [EL.out] at h2
      have B2 := below_alloc (Below.refl w2.heap.size w2) (.cells #[.int .i64 (j : Int), .int .i64 1] 40)
      have H2 := Lib.hid (h2.below B2)
      have HV2 := Lib.hid ((HR.fr HV.out f2).below B2)
      have hn := heap_alloc_new w2 (.cells #[.int .i64 (j : Int), .int .i64 1] 40)
      have LH := Lib.hid HA.out.lh
      have HA2 := Lib.hid HA.out.snoc
      have HN := Lib.hid hn
      clear h2 f2 B2 HA HS HV ET EL LP hn
      have q0 := (blk_cell HN.out 0).trans (show _ = some (Value.int .i64 (j : Int)) from rfl)
      have q1 := (blk_cell HN.out 1).trans (show _ = some (Value.int .i64 1) from rfl)
      go_wp2_with ((with_reducible refine gate_builtin (b := .append) (xs := #[.tmp 44, .tmp 46]) rfl ?_); at_builtin; refine Kd.R_append k40 (w0 := w) w.heap.size rfl (.tmp 44) (.tmp 46) 38 40 (.agg #[(.int .i64 0), (.int .i64 0)]) 16 rfl Tryd.underlying38 info40 rfl (by decide) (by decide) (.slice A6 hs.length c6) hs ⟨(j : Int), 1⟩ [.int .i64 (j : Int), .int .i64 1] (fun _ => True) (fun _ => False) rfl ?aX ?aP (fun _ hk => hk.elim) ?aF ?aO ?aB ?aS ?aL ?_; (case aX => first | rfl | (go_simp; done) | (go_simp; rfl)); (case aP => exact k40_mkM _ _ _ ⟨(j : Int), 1⟩); (case aB => exact H2.out.bl); (case aF => exact (fun _ _ => trivial)); (case aO => exact HV2.out); (case aS => exact H2.out.bl.size); (case aL => (have := LH.out; omega)); intro v8 w8 ho hb hg hat; have HV3 := Lib.hid ho; have H3 := Lib.hid (H2.out.keeps (below_app40 HV2.out H2.out.bl.size hg) (keeps_app40 HV2.out hg)); clear ho hb hg hat)
      go_roundg (m - (j + 1))
      case measure => omega
      case rel => exact ⟨j + 1, _, _, by simp, by omega, by omega, HA2.out, H3.out, HV3.out⟩
    · obtain rfl : j = m := by omega
      clear hlt hk hj
      go_wp2_with (fail)
      have hl := HA.out.lh
      obtain ⟨ad, c7, hv⟩ := HR.form HV.out (by omega)
      injection hv with e1 _ e2
      subst e1 e2
      have HVA : True := trivial
      clear HVA
      rw [hl]
      have HL := Lib.hid hl
      clear hl
      go_loopg [10] 20 (fun gk v10 wr => ∃ (i : Nat) (ps : List S108) (hs : List S40), v10 = .int .i64 (i : Int) ∧ i ≤ 20 ∧ 20 - i ≤ gk ∧ Hid (Als ps hs (2 * (i : Int)) j) ∧ Hid (St w wr g (j : Int) ps (j : Int)) ∧ Hid (HR wr w.heap.size (.slice (some ad) j c6) hs))
      case atStart => exact ⟨0, ps, hs, rfl, by omega, by omega, HA.out, HS.out, by rw [← HL.out]; exact HV.out⟩
      case round =>
        obtain ⟨i, ps2, hs2, rfl, hi, hk, HA, HS, HV⟩ := hrel
        by_cases h20 : i < 20
        · by_cases hlen : i < len
          · obtain ⟨x, n, rfl, hx, _, _⟩ := (HI.out.below HS.out.bl).at_ i hlen
            have c0 : (i : Int) < (len : Int) := by omega
            have c00 : (0 : Int) ≤ (i : Int) := by omega
            have c1 : (i : Int) < 20 := by omega
            have qn : Go.bits .and .i64 n 255 = n % 256 := and_mask n 8 (by decide)
            have cm : (j : Int) ≠ 0 := by omega
            have qn2 : Go.bits .and .i64 (n / 256) 255 = n / 256 % 256 := and_mask (n / 256) 8 (by decide)
            have qt1 : Int.tmod (n / 256 % 256) (j : Int) = n / 256 % 256 % (j : Int) := Int.tmod_eq_emod_of_nonneg (Int.emod_nonneg _ (by decide))
            obtain ⟨p, hp, hpj⟩ : ∃ p : Nat, n % 256 % (j : Int) = (p : Int) ∧ p < j := ⟨(n % 256 % (j : Int)).toNat, by have := Int.emod_nonneg (n % 256) cm; omega, by have := Int.emod_lt_of_pos (n % 256) (show (0 : Int) < (j : Int) by omega); have := Int.emod_nonneg (n % 256) cm; omega⟩
            obtain ⟨q, hq, hqj⟩ : ∃ q : Nat, n / 256 % 256 % (j : Int) = (q : Int) ∧ q < j := ⟨(n / 256 % 256 % (j : Int)).toNat, by have := Int.emod_nonneg (n / 256 % 256) cm; omega, by have := Int.emod_lt_of_pos (n / 256 % 256) (show (0 : Int) < (j : Int) by omega); have := Int.emod_nonneg (n / 256 % 256) cm; omega⟩
            go_wp2_with (fail)
            go_quiet (fail)
            rename_i nq
            rw [hp]
            have HS1 := Lib.hid (HS.out.below (pw_below_drewN (Below.refl _ _) nq))
            have HV1 := Lib.hid (HR.below HV.out (pw_below_drewN (Below.refl _ _) nq))
            have LH := Lib.hid HA.out.lh; have LP := Lib.hid HA.out.lp; have EH := Lib.hid HA.out.eh; have TK := Lib.hid HA.out.tk; have TB := Lib.hid HA.out.t1
            clear hx qn qn2 qt1 hp hq c0 c00 c1 HS HV
            generalize wr.drewN nq = wr1 at *
            rcases Nat.lt_trichotomy p q with hpq | hpq | hpq
            · have dpq : ¬ ((q : Int) < (p : Int)) := by omega
              have cb : (q : Int) < (j : Int) := by omega
              have cb0 : (0 : Int) ≤ (q : Int) := by omega
              have cs : (p : Int) < (j : Int) := by omega
              have cs0 : (0 : Int) ≤ (p : Int) := by omega
              have hne : p ≠ q := by omega
              have HNE := Lib.hid hne
              have hne2 : ((p : Int) == (q : Int)) = false := by
                have : (p : Int) ≠ (q : Int) := by omega
                simpa using this
              clear hne
              have bt := TB.out q (by omega)
              have bs := TB.out p (by omega)
              obtain ⟨bt1, bt2⟩ := bt
              obtain ⟨bs1, bs2⟩ := bs
              have o1 := HR.op (hs := hs2) (c := c6) (ad := ad) (by rw [LH.out]; exact HV1.out) q (by rw [LH.out]; omega)
              have r0 := o1.x0
              have r1 := o1.x1
              rw [EH.out q (by omega)] at r0 r1
              clear o1
              go_wp2_with (fail)
              go_at_call 17
              (with_reducible refine (yes2 w _ g (j : Int) (j : Int) ps2 (q : Int) q (plc ps2 q).f0 rfl HS1.out (by rw [LP.out]; omega) (hasB_of (by rw [LP.out]; omega) (TK.out q (by omega)) rfl) (by omega) (by omega)).mono ?_)
              rintro e w2 ⟨rfl, h2, f2⟩
              have HS2 : Hid (St w w2 g (j : Int) (freed ps2 q) ((j : Int) - 1)) := h2
              have HV2 := Lib.hid (HR.fr HV1.out f2)
              clear h2 f2 HS1 HV1 r0 r1
              have o2 := HR.op (hs := hs2) (c := c6) (ad := ad) (by rw [LH.out]; exact HV2.out) p (by rw [LH.out]; omega)
              have r0 := o2.x0
              have r1 := o2.x1
              rw [EH.out p (by omega)] at r0 r1
              clear o2
              go_wp2_with (fail)
              go_at_call 17
              (with_reducible refine (yes2 w _ g (j : Int) ((j : Int) - 1) (freed ps2 q) (p : Int) p _ rfl HS2.out (by rw [freed_len, LP.out]; omega) (hasB_of (by rw [freed_len, LP.out]; omega) (by rw [plc_freed_ne HNE.out.symm]; exact TK.out p (by omega)) (by rw [plc_freed_ne HNE.out.symm])) (by omega) (by omega)).mono ?_)
              rintro e w3 ⟨rfl, h2, f2⟩
              have HS3 : Hid (St w w3 g (j : Int) (freed (freed ps2 q) p) ((j : Int) - 1 - 1)) := h2
              have HV3 := Lib.hid (HR.fr HV2.out f2)
              clear h2 f2 HS2 HV2 r0 r1
              have o3 := HR.op (hs := hs2) (c := c6) (ad := ad) (by rw [LH.out]; exact HV3.out) q (by rw [LH.out]; omega)
              have r0 := o3.x0
              have r1 := o3.x1
              rw [EH.out q (by omega)] at r0 r1
              clear o3
              go_wp2_with (fail)
              go_at_call 17
              (with_reducible refine (no2 w _ HG.out g (j : Int) ((j : Int) - 1 - 1) (freed (freed ps2 q) p) (q : Int) _ HS3.out (by omega) (hasB_no (by rw [plc_freed_ne HNE.out, plc_freed (by rw [LP.out]; omega)]))).mono ?_)
              rintro e w4 ⟨k4, rfl, hj4, h4, b4⟩
              have HS4 := Lib.hid h4
              have HV4 := Lib.hid (HR.below HV3.out b4)
              clear hj4 h4 b4 HS3 HV3 r0 r1
              have ET := Lib.hid (show turnOf (freed (freed ps2 q) p) p = (plc ps2 p).f0 + 1 from turn_freed2 HNE.out.symm (by rw [LP.out]; omega))
              have EL := Lib.hid (show tookL (freed (freed ps2 q) p) p = freed (ps2.set p ⟨(plc ps2 p).f0 + 1, true⟩) q from took_freed2 HNE.out.symm (by rw [LP.out]; omega))
              have HT := Lib.hid (show ∀ k, k < p → (plc (freed (freed ps2 q) p) k).f1 = true from fun k hk => (by rw [plc_freed_ne (by omega), plc_freed_ne (by omega)]; exact TK.out k (by omega)))
              have HF2 := Lib.hid (show (plc (freed (freed ps2 q) p) p).f1 = false from (by rw [plc_freed (by rw [freed_len, LP.out]; omega)]))
              have LN := Lib.hid (show (freed (freed ps2 q) p).length = j by rw [freed_len, freed_len]; exact LP.out)
              have HIJ : p < j := by omega
              go_wp2_with (fail)
              go_at_call 16
              (with_reducible refine (take2 w _ g (j : Int) ((j : Int) - 1 - 1) (freed (freed ps2 q) p) p HS4.out (by rw [LN.out]; omega) HT.out (fun _ => HF2.out) (by omega) (by rw [LN.out]; omega) (by rw [ET.out]; omega) (by rw [ET.out]; omega) (by omega) (by omega)).mono ?_)
              rintro e w5 ⟨rfl, h5, f5⟩
              rw [ET.out]
              rw [EL.out] at h5
              have B5 := below_alloc (Below.refl w5.heap.size w5) (.cells #[.int .i64 (p : Int), .int .i64 ((plc ps2 p).f0 + 1)] 40)
              have HS5 := Lib.hid (h5.below B5)
              have HV5 := Lib.hid ((HR.fr HV4.out f5).below B5)
              have HN5 := Lib.hid (show Hn (w5.alloc (.cells #[.int .i64 (p : Int), .int .i64 ((plc ps2 p).f0 + 1)] 40)) w5.heap.size (p : Int) ((plc ps2 p).f0 + 1) from heap_alloc_new w5 _)
              clear h5 f5 B5 HS4 HV4 ET EL HT HF2 LN
              have q0 := (blk_cell HN5.out 0).trans (show _ = some (Value.int .i64 (p : Int)) from rfl)
              have q1 := (blk_cell HN5.out 1).trans (show _ = some (Value.int .i64 ((plc ps2 p).f0 + 1)) from rfl)
              have o5 := HR.op (hs := hs2) (c := c6) (ad := ad) (by rw [LH.out]; exact HV5.out) p (by rw [LH.out]; omega)
              have r0 := o5.x0
              have r1 := o5.x1
              rw [EH.out p (by omega)] at r0 r1
              clear o5
              go_wp2_with (fail)
              go_quiet (fail)
              have D5 : Below (w5.alloc (.cells #[.int .i64 (p : Int), .int .i64 ((plc ps2 p).f0 + 1)] 40)).heap.size (w5.alloc (.cells #[.int .i64 (p : Int), .int .i64 ((plc ps2 p).f0 + 1)] 40)) ((w5.alloc (.cells #[.int .i64 (p : Int), .int .i64 ((plc ps2 p).f0 + 1)] 40)).drewN nq) := pw_below_drewN (Below.refl _ _) nq
              have HS6 := Lib.hid (HS5.out.below D5)
              have HV6 := Lib.hid (HR.below HV5.out D5)
              have HN6 := Lib.hid (show Hn _ _ _ _ from blk_below HN5.out D5)
              clear D5 HS5 HV5 HN5 q0 q1 r0 r1
              generalize (w5.alloc (.cells #[.int .i64 (p : Int), .int .i64 ((plc ps2 p).f0 + 1)] 40)).drewN nq = w6 at *
              have q0 := (blk_cell HN6.out 0).trans (show _ = some (Value.int .i64 (p : Int)) from rfl)
              have q1 := (blk_cell HN6.out 1).trans (show _ = some (Value.int .i64 ((plc ps2 p).f0 + 1)) from rfl)
              have o6 := HR.op (hs := hs2) (c := c6) (ad := ad) (by rw [LH.out]; exact HV6.out) p (by rw [LH.out]; omega)
              have r0 := o6.x0
              have r1 := o6.x1
              have y0 := o6.y0
              have y1 := o6.y1
              have r1s := o6.x1s (.int .i64 (p : Int))
              have HP6 := Lib.hid (o6.put (p : Int) ((plc ps2 p).f0 + 1))
              clear o6
              have HV7 : Hid (HR _ w.heap.size (.slice (some ad) j c6) _) := Lib.hid (by have := HP6.out.1; rw [LH.out] at this; exact this)
              have HS7 := Lib.hid (HS6.out.keeps HP6.out.2.1 HP6.out.2.2)
              clear HP6 HS6 HV6 HN6
              have HA7 := Lib.hid (HA.out.again (a := p) (by omega))
              have LP7 := Lib.hid HA7.out.lp; have LH7 := Lib.hid HA7.out.lh; have TK7 := Lib.hid HA7.out.tk; have EH7 := Lib.hid HA7.out.eh
              have EB := Lib.hid (show plc (ps2.set p ⟨(plc ps2 p).f0 + 1, true⟩) q = plc ps2 q from plc_set_ne HNE.out _)
              generalize ps2.set p ⟨(plc ps2 p).f0 + 1, true⟩ = ps7 at *
              generalize hs2.set p ⟨(p : Int), (plc ps2 p).f0 + 1⟩ = hs7 at *
              have ET := Lib.hid (show turnOf (freed ps7 q) q = (plc ps7 q).f0 + 1 from turn_freed (by rw [LP7.out]; omega))
              have EL := Lib.hid (show tookL (freed ps7 q) q = ps7.set q ⟨(plc ps7 q).f0 + 1, true⟩ from took_freed (by rw [LP7.out]; omega))
              have HT := Lib.hid (show ∀ k, k < q → (plc (freed ps7 q) k).f1 = true from fun k hk => (by rw [plc_freed_ne (by omega)]; exact TK7.out k (by omega)))
              have HF2 := Lib.hid (show (plc (freed ps7 q) q).f1 = false from (by rw [plc_freed (by rw [LP7.out]; omega)]))
              have LN := Lib.hid (show (freed ps7 q).length = j by rw [freed_len]; exact LP7.out)
              rw [← EB.out] at bt1 bt2
              go_wp2_with (fail)
              generalize (w6.setCell (ad.add (p * 2)) (.int .i64 (p : Int))).setCell ⟨(ad.add (p * 2)).block, (ad.add (p * 2)).off + 1, none⟩ (.int .i64 ((plc ps2 p).f0 + 1)) = w7 at *
              clear q0 q1 r0 r1 y0 y1 r1s
              go_at_call 16
              (with_reducible refine (take2 w _ g (j : Int) ((j : Int) - 1 - 1 + 1) (freed ps7 q) q HS7.out (by rw [LN.out]; omega) HT.out (fun _ => HF2.out) (by omega) (by rw [LN.out]; omega) (by rw [ET.out]; omega) (by rw [ET.out]; omega) (by omega) (by omega)).mono ?_)
              rintro e w8 ⟨rfl, h8, f8⟩
              rw [ET.out]
              rw [EL.out] at h8
              have B8 := below_alloc (Below.refl w8.heap.size w8) (.cells #[.int .i64 (q : Int), .int .i64 ((plc ps7 q).f0 + 1)] 40)
              have HS8 := Lib.hid (h8.below B8)
              have HV8 := Lib.hid ((HR.fr HV7.out f8).below B8)
              have HN8 := Lib.hid (show Hn (w8.alloc (.cells #[.int .i64 (q : Int), .int .i64 ((plc ps7 q).f0 + 1)] 40)) w8.heap.size (q : Int) ((plc ps7 q).f0 + 1) from heap_alloc_new w8 _)
              clear h8 f8 B8 HS7 HV7 ET EL HT HF2 LN
              have q0 := (blk_cell HN8.out 0).trans (show _ = some (Value.int .i64 (q : Int)) from rfl)
              have q1 := (blk_cell HN8.out 1).trans (show _ = some (Value.int .i64 ((plc ps7 q).f0 + 1)) from rfl)
              have o8 := HR.op (hs := hs7) (c := c6) (ad := ad) (by rw [LH7.out]; exact HV8.out) q (by rw [LH7.out]; omega)
              have r0 := o8.x0
              have r1 := o8.x1
              rw [EH7.out q (by omega)] at r0 r1
              clear o8
              go_wp2_with (fail)
              go_quiet (fail)
              have D8 : Below (w8.alloc (.cells #[.int .i64 (q : Int), .int .i64 ((plc ps7 q).f0 + 1)] 40)).heap.size (w8.alloc (.cells #[.int .i64 (q : Int), .int .i64 ((plc ps7 q).f0 + 1)] 40)) ((w8.alloc (.cells #[.int .i64 (q : Int), .int .i64 ((plc ps7 q).f0 + 1)] 40)).drewN nq) := pw_below_drewN (Below.refl _ _) nq
              have HS9 := Lib.hid (HS8.out.below D8)
              have HV9 := Lib.hid (HR.below HV8.out D8)
              have HN9 := Lib.hid (show Hn _ _ _ _ from blk_below HN8.out D8)
              clear D8 HS8 HV8 HN8 q0 q1 r0 r1
              generalize (w8.alloc (.cells #[.int .i64 (q : Int), .int .i64 ((plc ps7 q).f0 + 1)] 40)).drewN nq = w9 at *
              have q0 := (blk_cell HN9.out 0).trans (show _ = some (Value.int .i64 (q : Int)) from rfl)
              have q1 := (blk_cell HN9.out 1).trans (show _ = some (Value.int .i64 ((plc ps7 q).f0 + 1)) from rfl)
              have o9 := HR.op (hs := hs7) (c := c6) (ad := ad) (by rw [LH7.out]; exact HV9.out) q (by rw [LH7.out]; omega)
              have r0 := o9.x0
              have r1 := o9.x1
              have y0 := o9.y0
              have y1 := o9.y1
              have r1s := o9.x1s (.int .i64 (q : Int))
              have HP9 := Lib.hid (o9.put (q : Int) ((plc ps7 q).f0 + 1))
              clear o9
              have HV10 : Hid (HR _ w.heap.size (.slice (some ad) j c6) _) := Lib.hid (by have := HP9.out.1; rw [LH7.out] at this; exact this)
              have HS10 := Lib.hid (HS9.out.keeps HP9.out.2.1 HP9.out.2.2)
              clear HP9 HS9 HV9 HN9
              have HA10 := Lib.hid (HA7.out.again (a := q) (by omega))
              go_wp2_with (fail)
              generalize (w9.setCell (ad.add (q * 2)) (.int .i64 (q : Int))).setCell ⟨(ad.add (q * 2)).block, (ad.add (q * 2)).off + 1, none⟩ (.int .i64 ((plc ps7 q).f0 + 1)) = wz at *
              clear q0 q1 r0 r1 y0 y1 r1s
              have HSz : Hid (St w wz g (j : Int) (ps7.set q ⟨(plc ps7 q).f0 + 1, true⟩) (j : Int)) := Lib.hid (by have := HS10.out; rw [show (j : Int) - 1 - 1 + 1 + 1 = (j : Int) by omega] at this; exact this)
              have HVz := HV10; have HAz := HA10
              clear HS10 HV10 HA10
              generalize ps7.set q ⟨(plc ps7 q).f0 + 1, true⟩ = psz at *
              go_at_call 16
              (with_reducible refine (full2 w _ HG.out g (j : Int) psz j HSz.out (by rw [HAz.out.lp]; exact Nat.le_refl _) (fun k hk => HAz.out.tk k hk) (fun h => absurd h (by rw [HAz.out.lp]; exact Nat.lt_irrefl _)) (by rw [HAz.out.lp]; omega)).mono ?_)
              rintro e wy ⟨ky, rfl, hjy, hy, by'⟩
              have By := below_alloc (Below.refl wy.heap.size wy) (.cells #[.int .i64 0, .int .i64 0] 40)
              have HSy := Lib.hid (hy.below By)
              have HVy := Lib.hid ((HR.below HVz.out by').below By)
              have HJy := Lib.hid (hjy.below By)
              clear hjy hy by' By HSz HVz
              go_wp2_with (fail)
              generalize wy.alloc (.cells #[.int .i64 0, .int .i64 0] 40) = wv at *
              go_at_call 14
              (with_reducible refine (code_join ky 2 _ (good_et' (HSy.out.good HG.out)) HJy.out).mono ?_)
              rintro e wu ⟨rfl, bu⟩
              have HSu := Lib.hid (HSy.out.below bu)
              have HVu := Lib.hid (HR.below HVy.out bu)
              clear bu HSy HVy HJy
              go_wp2_with (fail)
              go_at_call 18
              (with_reducible refine (len2 w _ g _ _ _ HSu.out).mono ?_)
              rintro e wt ⟨rfl, rfl⟩
              go_wp2
              go_roundg (20 - (i + 1))
              case measure => omega
              case rel => exact ⟨i + 1, _, _, by simp, by omega, by omega, HAz.out.up (by omega), HSu.out, HVu.out⟩
            · subst hpq
              have dpq : ¬ ((p : Int) < (p : Int)) := by omega
              have cb : (p : Int) < (j : Int) := by omega
              have cb0 : (0 : Int) ≤ (p : Int) := by omega
              have bt := TB.out p (by omega)
              have bs := TB.out p (by omega)
              obtain ⟨bt1, bt2⟩ := bt
              obtain ⟨bs1, bs2⟩ := bs
              have o1 := HR.op (hs := hs2) (c := c6) (ad := ad) (by rw [LH.out]; exact HV1.out) p (by rw [LH.out]; omega)
              have r0 := o1.x0
              have r1 := o1.x1
              rw [EH.out p (by omega)] at r0 r1
              clear o1
              go_wp2_with (fail)
              go_at_call 17
              (with_reducible refine (yes2 w _ g (j : Int) (j : Int) ps2 (p : Int) p (plc ps2 p).f0 rfl HS1.out (by rw [LP.out]; omega) (hasB_of (by rw [LP.out]; omega) (TK.out p (by omega)) rfl) (by omega) (by omega)).mono ?_)
              rintro e w2 ⟨rfl, h2, f2⟩
              have HS2 : Hid (St w w2 g (j : Int) (freed ps2 p) ((j : Int) - 1)) := h2
              have HV2 := Lib.hid (HR.fr HV1.out f2)
              clear h2 f2 HS1 HV1 r0 r1
              have o3 := HR.op (hs := hs2) (c := c6) (ad := ad) (by rw [LH.out]; exact HV2.out) p (by rw [LH.out]; omega)
              have r0 := o3.x0
              have r1 := o3.x1
              rw [EH.out p (by omega)] at r0 r1
              clear o3
              go_wp2_with (fail)
              go_at_call 17
              (with_reducible refine (no2 w _ HG.out g (j : Int) ((j : Int) - 1) (freed ps2 p) (p : Int) _ HS2.out (by omega) (hasB_no (by rw [plc_freed (by rw [LP.out]; omega)]))).mono ?_)
              rintro e w4 ⟨k4, rfl, hj4, h4, b4⟩
              have HS4 := Lib.hid h4
              have HV4 := Lib.hid (HR.below HV2.out b4)
              clear hj4 h4 b4 HS2 HV2 r0 r1
              have ET := Lib.hid (show turnOf (freed ps2 p) p = (plc ps2 p).f0 + 1 from turn_freed (by rw [LP.out]; omega))
              have EL := Lib.hid (show tookL (freed ps2 p) p = ps2.set p ⟨(plc ps2 p).f0 + 1, true⟩ from took_freed (by rw [LP.out]; omega))
              have HT := Lib.hid (show ∀ k, k < p → (plc (freed ps2 p) k).f1 = true from fun k hk => (by rw [plc_freed_ne (by omega)]; exact TK.out k (by omega)))
              have HF2 := Lib.hid (show (plc (freed ps2 p) p).f1 = false from (by rw [plc_freed (by rw [LP.out]; omega)]))
              have LN := Lib.hid (show (freed ps2 p).length = j by rw [freed_len]; exact LP.out)
              have HIJ : p < j := by omega
              go_wp2_with (fail)
              go_at_call 16
              (with_reducible refine (take2 w _ g (j : Int) ((j : Int) - 1) (freed ps2 p) p HS4.out (by rw [LN.out]; omega) HT.out (fun _ => HF2.out) (by omega) (by rw [LN.out]; omega) (by rw [ET.out]; omega) (by rw [ET.out]; omega) (by omega) (by omega)).mono ?_)
              rintro e w5 ⟨rfl, h5, f5⟩
              rw [ET.out]
              rw [EL.out] at h5
              have B5 := below_alloc (Below.refl w5.heap.size w5) (.cells #[.int .i64 (p : Int), .int .i64 ((plc ps2 p).f0 + 1)] 40)
              have HS5 := Lib.hid (h5.below B5)
              have HV5 := Lib.hid ((HR.fr HV4.out f5).below B5)
              have HN5 := Lib.hid (show Hn (w5.alloc (.cells #[.int .i64 (p : Int), .int .i64 ((plc ps2 p).f0 + 1)] 40)) w5.heap.size (p : Int) ((plc ps2 p).f0 + 1) from heap_alloc_new w5 _)
              clear h5 f5 B5 HS4 HV4 ET EL HT HF2 LN
              have q0 := (blk_cell HN5.out 0).trans (show _ = some (Value.int .i64 (p : Int)) from rfl)
              have q1 := (blk_cell HN5.out 1).trans (show _ = some (Value.int .i64 ((plc ps2 p).f0 + 1)) from rfl)
              have o5 := HR.op (hs := hs2) (c := c6) (ad := ad) (by rw [LH.out]; exact HV5.out) p (by rw [LH.out]; omega)
              have r0 := o5.x0
              have r1 := o5.x1
              rw [EH.out p (by omega)] at r0 r1
              clear o5
              go_wp2_with (fail)
              go_quiet (fail)
              have D5 : Below (w5.alloc (.cells #[.int .i64 (p : Int), .int .i64 ((plc ps2 p).f0 + 1)] 40)).heap.size (w5.alloc (.cells #[.int .i64 (p : Int), .int .i64 ((plc ps2 p).f0 + 1)] 40)) ((w5.alloc (.cells #[.int .i64 (p : Int), .int .i64 ((plc ps2 p).f0 + 1)] 40)).drewN nq) := pw_below_drewN (Below.refl _ _) nq
              have HS6 := Lib.hid (HS5.out.below D5)
              have HV6 := Lib.hid (HR.below HV5.out D5)
              have HN6 := Lib.hid (show Hn _ _ _ _ from blk_below HN5.out D5)
              clear D5 HS5 HV5 HN5 q0 q1 r0 r1
              generalize (w5.alloc (.cells #[.int .i64 (p : Int), .int .i64 ((plc ps2 p).f0 + 1)] 40)).drewN nq = w6 at *
              have q0 := (blk_cell HN6.out 0).trans (show _ = some (Value.int .i64 (p : Int)) from rfl)
              have q1 := (blk_cell HN6.out 1).trans (show _ = some (Value.int .i64 ((plc ps2 p).f0 + 1)) from rfl)
              have o6 := HR.op (hs := hs2) (c := c6) (ad := ad) (by rw [LH.out]; exact HV6.out) p (by rw [LH.out]; omega)
              have r0 := o6.x0
              have r1 := o6.x1
              have y0 := o6.y0
              have y1 := o6.y1
              have r1s := o6.x1s (.int .i64 (p : Int))
              have HP6 := Lib.hid (o6.put (p : Int) ((plc ps2 p).f0 + 1))
              clear o6
              have HV7 : Hid (HR _ w.heap.size (.slice (some ad) j c6) _) := Lib.hid (by have := HP6.out.1; rw [LH.out] at this; exact this)
              have HS7 := Lib.hid (HS6.out.keeps HP6.out.2.1 HP6.out.2.2)
              clear HP6 HS6 HV6 HN6
              have HA7 := Lib.hid (HA.out.again (a := p) (by omega))
              go_wp2_with (fail)
              generalize (w6.setCell (ad.add (p * 2)) (.int .i64 (p : Int))).setCell ⟨(ad.add (p * 2)).block, (ad.add (p * 2)).off + 1, none⟩ (.int .i64 ((plc ps2 p).f0 + 1)) = wz at *
              clear q0 q1 r0 r1 y0 y1 r1s
              have HSz : Hid (St w wz g (j : Int) (ps2.set p ⟨(plc ps2 p).f0 + 1, true⟩) (j : Int)) := Lib.hid (by have := HS7.out; rw [show (j : Int) - 1 + 1 = (j : Int) by omega] at this; exact this)
              have HVz := HV7; have HAz := HA7
              clear HS7 HV7 HA7
              generalize ps2.set p ⟨(plc ps2 p).f0 + 1, true⟩ = psz at *
              go_at_call 16
              (with_reducible refine (full2 w _ HG.out g (j : Int) psz j HSz.out (by rw [HAz.out.lp]; exact Nat.le_refl _) (fun k hk => HAz.out.tk k hk) (fun h => absurd h (by rw [HAz.out.lp]; exact Nat.lt_irrefl _)) (by rw [HAz.out.lp]; omega)).mono ?_)
              rintro e wy ⟨ky, rfl, hjy, hy, by'⟩
              have By := below_alloc (Below.refl wy.heap.size wy) (.cells #[.int .i64 0, .int .i64 0] 40)
              have HSy := Lib.hid (hy.below By)
              have HVy := Lib.hid ((HR.below HVz.out by').below By)
              have HJy := Lib.hid (hjy.below By)
              clear hjy hy by' By HSz HVz
              go_wp2_with (fail)
              generalize wy.alloc (.cells #[.int .i64 0, .int .i64 0] 40) = wv at *
              go_at_call 14
              (with_reducible refine (code_join ky 2 _ (good_et' (HSy.out.good HG.out)) HJy.out).mono ?_)
              rintro e wu ⟨rfl, bu⟩
              have HSu := Lib.hid (HSy.out.below bu)
              have HVu := Lib.hid (HR.below HVy.out bu)
              clear bu HSy HVy HJy
              go_wp2_with (fail)
              go_at_call 18
              (with_reducible refine (len2 w _ g _ _ _ HSu.out).mono ?_)
              rintro e wt ⟨rfl, rfl⟩
              go_wp2
              go_roundg (20 - (i + 1))
              case measure => omega
              case rel => exact ⟨i + 1, _, _, by simp, by omega, by omega, HAz.out.up (by omega), HSu.out, HVu.out⟩
            · have dpq : (q : Int) < (p : Int) := by omega
              have cb : (p : Int) < (j : Int) := by omega
              have cb0 : (0 : Int) ≤ (p : Int) := by omega
              have cs : (q : Int) < (j : Int) := by omega
              have cs0 : (0 : Int) ≤ (q : Int) := by omega
              have hne : q ≠ p := by omega
              have HNE := Lib.hid hne
              have hne2 : ((q : Int) == (p : Int)) = false := by
                have : (q : Int) ≠ (p : Int) := by omega
                simpa using this
              clear hne
              have bt := TB.out p (by omega)
              have bs := TB.out q (by omega)
              obtain ⟨bt1, bt2⟩ := bt
              obtain ⟨bs1, bs2⟩ := bs
              have o1 := HR.op (hs := hs2) (c := c6) (ad := ad) (by rw [LH.out]; exact HV1.out) p (by rw [LH.out]; omega)
              have r0 := o1.x0
              have r1 := o1.x1
              rw [EH.out p (by omega)] at r0 r1
              clear o1
              go_wp2_with (fail)
              go_at_call 17
              (with_reducible refine (yes2 w _ g (j : Int) (j : Int) ps2 (p : Int) p (plc ps2 p).f0 rfl HS1.out (by rw [LP.out]; omega) (hasB_of (by rw [LP.out]; omega) (TK.out p (by omega)) rfl) (by omega) (by omega)).mono ?_)
              rintro e w2 ⟨rfl, h2, f2⟩
              have HS2 : Hid (St w w2 g (j : Int) (freed ps2 p) ((j : Int) - 1)) := h2
              have HV2 := Lib.hid (HR.fr HV1.out f2)
              clear h2 f2 HS1 HV1 r0 r1
              have o2 := HR.op (hs := hs2) (c := c6) (ad := ad) (by rw [LH.out]; exact HV2.out) q (by rw [LH.out]; omega)
              have r0 := o2.x0
              have r1 := o2.x1
              rw [EH.out q (by omega)] at r0 r1
              clear o2
              go_wp2_with (fail)
              go_at_call 17
              (with_reducible refine (yes2 w _ g (j : Int) ((j : Int) - 1) (freed ps2 p) (q : Int) q _ rfl HS2.out (by rw [freed_len, LP.out]; omega) (hasB_of (by rw [freed_len, LP.out]; omega) (by rw [plc_freed_ne HNE.out.symm]; exact TK.out q (by omega)) (by rw [plc_freed_ne HNE.out.symm])) (by omega) (by omega)).mono ?_)
              rintro e w3 ⟨rfl, h2, f2⟩
              have HS3 : Hid (St w w3 g (j : Int) (freed (freed ps2 p) q) ((j : Int) - 1 - 1)) := h2
              have HV3 := Lib.hid (HR.fr HV2.out f2)
              clear h2 f2 HS2 HV2 r0 r1
              have o3 := HR.op (hs := hs2) (c := c6) (ad := ad) (by rw [LH.out]; exact HV3.out) p (by rw [LH.out]; omega)
              have r0 := o3.x0
              have r1 := o3.x1
              rw [EH.out p (by omega)] at r0 r1
              clear o3
              go_wp2_with (fail)
              go_at_call 17
              (with_reducible refine (no2 w _ HG.out g (j : Int) ((j : Int) - 1 - 1) (freed (freed ps2 p) q) (p : Int) _ HS3.out (by omega) (hasB_no (by rw [plc_freed_ne HNE.out, plc_freed (by rw [LP.out]; omega)]))).mono ?_)
              rintro e w4 ⟨k4, rfl, hj4, h4, b4⟩
              have HS4 := Lib.hid h4
              have HV4 := Lib.hid (HR.below HV3.out b4)
              clear hj4 h4 b4 HS3 HV3 r0 r1
              have ET := Lib.hid (show turnOf (freed (freed ps2 p) q) q = (plc ps2 q).f0 + 1 from turn_freed2 HNE.out.symm (by rw [LP.out]; omega))
              have EL := Lib.hid (show tookL (freed (freed ps2 p) q) q = freed (ps2.set q ⟨(plc ps2 q).f0 + 1, true⟩) p from took_freed2 HNE.out.symm (by rw [LP.out]; omega))
              have HT := Lib.hid (show ∀ k, k < q → (plc (freed (freed ps2 p) q) k).f1 = true from fun k hk => (by rw [plc_freed_ne (by omega), plc_freed_ne (by omega)]; exact TK.out k (by omega)))
              have HF2 := Lib.hid (show (plc (freed (freed ps2 p) q) q).f1 = false from (by rw [plc_freed (by rw [freed_len, LP.out]; omega)]))
              have LN := Lib.hid (show (freed (freed ps2 p) q).length = j by rw [freed_len, freed_len]; exact LP.out)
              have HIJ : q < j := by omega
              go_wp2_with (fail)
              go_at_call 16
              (with_reducible refine (take2 w _ g (j : Int) ((j : Int) - 1 - 1) (freed (freed ps2 p) q) q HS4.out (by rw [LN.out]; omega) HT.out (fun _ => HF2.out) (by omega) (by rw [LN.out]; omega) (by rw [ET.out]; omega) (by rw [ET.out]; omega) (by omega) (by omega)).mono ?_)
              rintro e w5 ⟨rfl, h5, f5⟩
              rw [ET.out]
              rw [EL.out] at h5
              have B5 := below_alloc (Below.refl w5.heap.size w5) (.cells #[.int .i64 (q : Int), .int .i64 ((plc ps2 q).f0 + 1)] 40)
              have HS5 := Lib.hid (h5.below B5)
              have HV5 := Lib.hid ((HR.fr HV4.out f5).below B5)
              have HN5 := Lib.hid (show Hn (w5.alloc (.cells #[.int .i64 (q : Int), .int .i64 ((plc ps2 q).f0 + 1)] 40)) w5.heap.size (q : Int) ((plc ps2 q).f0 + 1) from heap_alloc_new w5 _)
              clear h5 f5 B5 HS4 HV4 ET EL HT HF2 LN
              have q0 := (blk_cell HN5.out 0).trans (show _ = some (Value.int .i64 (q : Int)) from rfl)
              have q1 := (blk_cell HN5.out 1).trans (show _ = some (Value.int .i64 ((plc ps2 q).f0 + 1)) from rfl)
              have o5 := HR.op (hs := hs2) (c := c6) (ad := ad) (by rw [LH.out]; exact HV5.out) q (by rw [LH.out]; omega)
              have r0 := o5.x0
              have r1 := o5.x1
              rw [EH.out q (by omega)] at r0 r1
              clear o5
              go_wp2_with (fail)
              go_quiet (fail)
              have D5 : Below (w5.alloc (.cells #[.int .i64 (q : Int), .int .i64 ((plc ps2 q).f0 + 1)] 40)).heap.size (w5.alloc (.cells #[.int .i64 (q : Int), .int .i64 ((plc ps2 q).f0 + 1)] 40)) ((w5.alloc (.cells #[.int .i64 (q : Int), .int .i64 ((plc ps2 q).f0 + 1)] 40)).drewN nq) := pw_below_drewN (Below.refl _ _) nq
              have HS6 := Lib.hid (HS5.out.below D5)
              have HV6 := Lib.hid (HR.below HV5.out D5)
              have HN6 := Lib.hid (show Hn _ _ _ _ from blk_below HN5.out D5)
              clear D5 HS5 HV5 HN5 q0 q1 r0 r1
              generalize (w5.alloc (.cells #[.int .i64 (q : Int), .int .i64 ((plc ps2 q).f0 + 1)] 40)).drewN nq = w6 at *
              have q0 := (blk_cell HN6.out 0).trans (show _ = some (Value.int .i64 (q : Int)) from rfl)
              have q1 := (blk_cell HN6.out 1).trans (show _ = some (Value.int .i64 ((plc ps2 q).f0 + 1)) from rfl)
              have o6 := HR.op (hs := hs2) (c := c6) (ad := ad) (by rw [LH.out]; exact HV6.out) q (by rw [LH.out]; omega)
              have r0 := o6.x0
              have r1 := o6.x1
              have y0 := o6.y0
              have y1 := o6.y1
              have r1s := o6.x1s (.int .i64 (q : Int))
              have HP6 := Lib.hid (o6.put (q : Int) ((plc ps2 q).f0 + 1))
              clear o6
              have HV7 : Hid (HR _ w.heap.size (.slice (some ad) j c6) _) := Lib.hid (by have := HP6.out.1; rw [LH.out] at this; exact this)
              have HS7 := Lib.hid (HS6.out.keeps HP6.out.2.1 HP6.out.2.2)
              clear HP6 HS6 HV6 HN6
              have HA7 := Lib.hid (HA.out.again (a := q) (by omega))
              have LP7 := Lib.hid HA7.out.lp; have LH7 := Lib.hid HA7.out.lh; have TK7 := Lib.hid HA7.out.tk; have EH7 := Lib.hid HA7.out.eh
              have EB := Lib.hid (show plc (ps2.set q ⟨(plc ps2 q).f0 + 1, true⟩) p = plc ps2 p from plc_set_ne HNE.out _)
              generalize ps2.set q ⟨(plc ps2 q).f0 + 1, true⟩ = ps7 at *
              generalize hs2.set q ⟨(q : Int), (plc ps2 q).f0 + 1⟩ = hs7 at *
              have ET := Lib.hid (show turnOf (freed ps7 p) p = (plc ps7 p).f0 + 1 from turn_freed (by rw [LP7.out]; omega))
              have EL := Lib.hid (show tookL (freed ps7 p) p = ps7.set p ⟨(plc ps7 p).f0 + 1, true⟩ from took_freed (by rw [LP7.out]; omega))
              have HT := Lib.hid (show ∀ k, k < p → (plc (freed ps7 p) k).f1 = true from fun k hk => (by rw [plc_freed_ne (by omega)]; exact TK7.out k (by omega)))
              have HF2 := Lib.hid (show (plc (freed ps7 p) p).f1 = false from (by rw [plc_freed (by rw [LP7.out]; omega)]))
              have LN := Lib.hid (show (freed ps7 p).length = j by rw [freed_len]; exact LP7.out)
              rw [← EB.out] at bt1 bt2
              go_wp2_with (fail)
              generalize (w6.setCell (ad.add (q * 2)) (.int .i64 (q : Int))).setCell ⟨(ad.add (q * 2)).block, (ad.add (q * 2)).off + 1, none⟩ (.int .i64 ((plc ps2 q).f0 + 1)) = w7 at *
              clear q0 q1 r0 r1 y0 y1 r1s
              go_at_call 16
              (with_reducible refine (take2 w _ g (j : Int) ((j : Int) - 1 - 1 + 1) (freed ps7 p) p HS7.out (by rw [LN.out]; omega) HT.out (fun _ => HF2.out) (by omega) (by rw [LN.out]; omega) (by rw [ET.out]; omega) (by rw [ET.out]; omega) (by omega) (by omega)).mono ?_)
              rintro e w8 ⟨rfl, h8, f8⟩
              rw [ET.out]
              rw [EL.out] at h8
              have B8 := below_alloc (Below.refl w8.heap.size w8) (.cells #[.int .i64 (p : Int), .int .i64 ((plc ps7 p).f0 + 1)] 40)
              have HS8 := Lib.hid (h8.below B8)
              have HV8 := Lib.hid ((HR.fr HV7.out f8).below B8)
              have HN8 := Lib.hid (show Hn (w8.alloc (.cells #[.int .i64 (p : Int), .int .i64 ((plc ps7 p).f0 + 1)] 40)) w8.heap.size (p : Int) ((plc ps7 p).f0 + 1) from heap_alloc_new w8 _)
              clear h8 f8 B8 HS7 HV7 ET EL HT HF2 LN
              have q0 := (blk_cell HN8.out 0).trans (show _ = some (Value.int .i64 (p : Int)) from rfl)
              have q1 := (blk_cell HN8.out 1).trans (show _ = some (Value.int .i64 ((plc ps7 p).f0 + 1)) from rfl)
              have o8 := HR.op (hs := hs7) (c := c6) (ad := ad) (by rw [LH7.out]; exact HV8.out) p (by rw [LH7.out]; omega)
              have r0 := o8.x0
              have r1 := o8.x1
              rw [EH7.out p (by omega)] at r0 r1
              clear o8
              go_wp2_with (fail)
              go_quiet (fail)
              have D8 : Below (w8.alloc (.cells #[.int .i64 (p : Int), .int .i64 ((plc ps7 p).f0 + 1)] 40)).heap.size (w8.alloc (.cells #[.int .i64 (p : Int), .int .i64 ((plc ps7 p).f0 + 1)] 40)) ((w8.alloc (.cells #[.int .i64 (p : Int), .int .i64 ((plc ps7 p).f0 + 1)] 40)).drewN nq) := pw_below_drewN (Below.refl _ _) nq
              have HS9 := Lib.hid (HS8.out.below D8)
              have HV9 := Lib.hid (HR.below HV8.out D8)
              have HN9 := Lib.hid (show Hn _ _ _ _ from blk_below HN8.out D8)
              clear D8 HS8 HV8 HN8 q0 q1 r0 r1
              generalize (w8.alloc (.cells #[.int .i64 (p : Int), .int .i64 ((plc ps7 p).f0 + 1)] 40)).drewN nq = w9 at *
              have q0 := (blk_cell HN9.out 0).trans (show _ = some (Value.int .i64 (p : Int)) from rfl)
              have q1 := (blk_cell HN9.out 1).trans (show _ = some (Value.int .i64 ((plc ps7 p).f0 + 1)) from rfl)
              have o9 := HR.op (hs := hs7) (c := c6) (ad := ad) (by rw [LH7.out]; exact HV9.out) p (by rw [LH7.out]; omega)
              have r0 := o9.x0
              have r1 := o9.x1
              have y0 := o9.y0
              have y1 := o9.y1
              have r1s := o9.x1s (.int .i64 (p : Int))
              have HP9 := Lib.hid (o9.put (p : Int) ((plc ps7 p).f0 + 1))
              clear o9
              have HV10 : Hid (HR _ w.heap.size (.slice (some ad) j c6) _) := Lib.hid (by have := HP9.out.1; rw [LH7.out] at this; exact this)
              have HS10 := Lib.hid (HS9.out.keeps HP9.out.2.1 HP9.out.2.2)
              clear HP9 HS9 HV9 HN9
              have HA10 := Lib.hid (HA7.out.again (a := p) (by omega))
              go_wp2_with (fail)
              generalize (w9.setCell (ad.add (p * 2)) (.int .i64 (p : Int))).setCell ⟨(ad.add (p * 2)).block, (ad.add (p * 2)).off + 1, none⟩ (.int .i64 ((plc ps7 p).f0 + 1)) = wz at *
              clear q0 q1 r0 r1 y0 y1 r1s
              have HSz : Hid (St w wz g (j : Int) (ps7.set p ⟨(plc ps7 p).f0 + 1, true⟩) (j : Int)) := Lib.hid (by have := HS10.out; rw [show (j : Int) - 1 - 1 + 1 + 1 = (j : Int) by omega] at this; exact this)
              have HVz := HV10; have HAz := HA10
              clear HS10 HV10 HA10
              generalize ps7.set p ⟨(plc ps7 p).f0 + 1, true⟩ = psz at *
              go_at_call 16
              (with_reducible refine (full2 w _ HG.out g (j : Int) psz j HSz.out (by rw [HAz.out.lp]; exact Nat.le_refl _) (fun k hk => HAz.out.tk k hk) (fun h => absurd h (by rw [HAz.out.lp]; exact Nat.lt_irrefl _)) (by rw [HAz.out.lp]; omega)).mono ?_)
              rintro e wy ⟨ky, rfl, hjy, hy, by'⟩
              have By := below_alloc (Below.refl wy.heap.size wy) (.cells #[.int .i64 0, .int .i64 0] 40)
              have HSy := Lib.hid (hy.below By)
              have HVy := Lib.hid ((HR.below HVz.out by').below By)
              have HJy := Lib.hid (hjy.below By)
              clear hjy hy by' By HSz HVz
              go_wp2_with (fail)
              generalize wy.alloc (.cells #[.int .i64 0, .int .i64 0] 40) = wv at *
              go_at_call 14
              (with_reducible refine (code_join ky 2 _ (good_et' (HSy.out.good HG.out)) HJy.out).mono ?_)
              rintro e wu ⟨rfl, bu⟩
              have HSu := Lib.hid (HSy.out.below bu)
              have HVu := Lib.hid (HR.below HVy.out bu)
              clear bu HSy HVy HJy
              go_wp2_with (fail)
              go_at_call 18
              (with_reducible refine (len2 w _ g _ _ _ HSu.out).mono ?_)
              rintro e wt ⟨rfl, rfl⟩
              go_wp2
              go_roundg (20 - (i + 1))
              case measure => omega
              case rel => exact ⟨i + 1, _, _, by simp, by omega, by omega, HAz.out.up (by omega), HSu.out, HVu.out⟩
          · have c0 : ¬ ((i : Int) < (len : Int)) := by omega
            go_wp2_with (fail)
            go_at_call 19
            (with_reducible refine (awake_calls _ (HS.out.good HG.out)).mono ?_)
            rintro e wz ⟨rfl, bz⟩
            have HBz := Lib.hid (below_step HS.out.bl bz)
            clear bz
            go_wp2
            go_ret
            exact ⟨rfl, HBz.out⟩
        · obtain rfl : i = 20 := by omega
          by_cases hlen : 20 < len
          · have c0 : (20 : Int) < (len : Int) := by omega
            go_wp2_with (fail)
            go_at_call 19
            (with_reducible refine (awake_calls _ (HS.out.good HG.out)).mono ?_)
            rintro e wz ⟨rfl, bz⟩
            have HBz := Lib.hid (below_step HS.out.bl bz)
            clear bz
            go_wp2
            go_ret
            exact ⟨rfl, HBz.out⟩
          · have c0 : ¬ ((20 : Int) < (len : Int)) := by omega
            go_wp2_with (fail)
            go_at_call 19
            (with_reducible refine (awake_calls _ (HS.out.good HG.out)).mono ?_)
            rintro e wz ⟨rfl, bz⟩
            have HBz := Lib.hid (below_step HS.out.bl bz)
            clear bz
            go_wp2
            go_ret
            exact ⟨rfl, HBz.out⟩
end Go.Proofs.YtphaaagcdjpceaaDoor
