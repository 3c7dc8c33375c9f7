/- DeskOwns: the walk. (Written by wip/gen/mkdk21.py.) -/
import Derived.Test.YtphaaagcdjpceaaDoorDk20
import Derived.Deep.RegionLaw
namespace Go.Proofs.YtphaaagcdjpceaaDoor
open Go.RowKit Go.Extern.Stop Go.Stop Go.Extern Go.Proofs.YtphaaagcdjpceaaDoorW.PrintWords Go.Proofs.YtphaaagcdjpceaaDoorW.PrintLast Go.Proofs.YtphaaagcdjpceaaDoorW.PrintMore
open Go.Maps (Keyed)
set_option linter.unusedVariables false
set_option linter.unusedSimpArgs false
theorem R_sl {α : Type} {d : Kd α} {e : Nat} {w : World} {base : Nat} {ok : Nat → Prop} {v : Value} {xs : List α} (h : d.R e w base ok v xs) : ∃ A n c, v = .slice A n c := by
  obtain ⟨A, c, e⟩ := Kd.R_slice h
  exact ⟨A, _, c, e⟩
theorem cell_set1 {wx : World} {hb z j : Nat} {i : Nat} {r u : Value} (hc : wx.cell? ⟨hb, i, none⟩ = some r) (hne : hb ≠ z) : (wx.setCell ⟨z, j, none⟩ u).cell? ⟨hb, i, none⟩ = some r := by
  rw [World.cell?_of_block (a := ⟨hb, i, none⟩) (Below.heap_setCell wx ⟨z, j, none⟩ u hb hne)]
  exact hc
/-- What came in, as a row that is read. -/
theorem InRow.C {w : World} {A : Option Addr} {la ca : Nat} {zs : List Int} (h : InRow w A la ca zs) {m : Nat} (hm : m ≤ la) (hl : (zs.take m).length = m) : Kd.C (Kd.int .i64) w A m (zs.take m) := by
  rcases h with ⟨rfl, rfl, rfl, rfl⟩ | ⟨x, h1, h2, h3, h4, h5, h6⟩
  · obtain rfl : m = 0 := by omega
    exact Kd.C_nil _ _
  · refine Kd.C_of_reads (d := (0 : Int)) ⟨hl, by have : ca ≤ 9223372036854775807 := h3; omega, fun _ => ⟨x, h1, fun j hj => ?_⟩⟩
    rw [h5 j (by omega)]
    congr 2
    rw [List.getD_eq_getElem?_getD, List.getD_eq_getElem?_getD, List.getElem?_take_of_lt hj]
theorem osame {A B : Option Addr} {c c' n : Nat} {xs : List Int} {W : World} (hn : xs.length = n) (h1 : Kd.C (Kd.int .i64) W A n xs) (h2 : Kd.C (Kd.int .i64) W B n xs) (hl : n ≤ 20) : Calls Tryd.prog 44 #[.slice A n c, .slice B n c'] W fun e w' => e = .returned (.bool true) ∧ Below W.heap.size W w' := by
  subst hn; exact same_yes A B c c' xs W h1 h2 (by omega)
theorem row_cell {W : World} {B n c : Nat} {A : Option Addr} {ok : Nat → Prop} (h : Kd.R k40 40 W B ok (.slice A n c) (hsOf n)) {j : Nat} (hj : j < n) : ∃ ad, A = some ad ∧ W.cell? (ad.add (j * 2)) = some (.int .i64 (j : Int)) ∧ W.cell? ⟨(ad.add (j * 2)).block, (ad.add (j * 2)).off + 1, none⟩ = some (.int .i64 1) := by
  have h' : HR W B (.slice A (hsOf n).length c) (hsOf n) := by rw [hsOf_len]; exact Kd.R_mono h (fun _ _ => trivial)
  obtain ⟨ad, c', hv⟩ := HR.form h' (by rw [hsOf_len]; omega)
  injection hv with e1 _ e2
  subst e1 e2
  have o := HR.op h' j (by rw [hsOf_len]; exact hj)
  have e0 := o.x0
  have e1 := o.x1
  rw [hsOf_at hj] at e0 e1
  exact ⟨ad, rfl, e0, e1⟩
theorem w64_1 : Go.RowKit.wrap64 1 = 1 := IntWalk.wrap64_in 1 ⟨by decide, by decide⟩
theorem w64_0 : Go.RowKit.wrap64 0 = 0 := IntWalk.wrap64_in 0 ⟨by decide, by decide⟩
section
variable {ops : Array Oper} {o : Oper} {a : Act} {Q : Exit → Act → World → Prop} {Kc : Act → World → Prop}
theorem drew_alloc (w : World) (x : Obj) : (w.alloc x).drew = w.drew.alloc x := rfl
/-- append of one handle, in a region that draws. -/
theorem app40_d {w0 W : World} (base : Nat) (hw : Region.wanted o (yielded ops a.tmps) = true) (s x : Operand) (ho : o.op = .call { callee := .builtin .append, args := #[s, x], argTypes := #[38, 38] })
    (A : Option Addr) (c : Nat) (xs : List S40) (p t : Int) (ok : Nat → Prop) (hs : a.eval s = .slice A xs.length c) (hx : a.eval x = .slice (some ⟨W.heap.size, 0, none⟩) 1 1) (hfresh : ∀ k, W.heap.size ≤ k → ok k)
    (HO : Kd.R k40 40 W base ok (.slice A xs.length c) xs) (HB : Below base w0 W) (hbase : base ≤ W.heap.size) (hl : xs.length ≤ 1000)
    (h : ∀ v1 w1, Kd.R k40 40 w1 base ok v1 (xs ++ [⟨p, t⟩]) → Below base w0 w1 → W.grownBy w1 (Value.slice A xs.length c).ownBlock → Kc (a.put o.dst v1) w1) :
    if Region.wanted o (yielded ops a.tmps) = true then Oper.wp Tryd.prog o a (W.alloc (.cells #[.int .i64 p, .int .i64 t] 40)).drew Kc Q else Kc (a.put o.dst undef) (W.alloc (.cells #[.int .i64 p, .int .i64 t] 40)).drew := by
  rw [drew_alloc]
  exact Kd.R_append_step k40 (w0 := w0) (W := W.drew) base hw s x 38 40 (.agg #[(.int .i64 0), (.int .i64 0)]) 16 ho Tryd.underlying38 info40 rfl (by decide) (by decide) (.slice A xs.length c) xs ⟨p, t⟩ [.int .i64 p, .int .i64 t] ok (fun _ => False) hs hx (k40_mkM _ _ _ ⟨p, t⟩) (fun _ hk => hk.elim) hfresh (Kd.R_drew HO) (below_drew1 HB) hbase (by omega)
    (fun v1 w1 h1 h2 h3 _ => h v1 w1 h1 h2 ⟨h3.os, h3.tape, h3.output, h3.size, h3.block⟩)
end
set_option maxHeartbeats 8000000 in
set_option maxRecDepth 100000 in
theorem owns_walk (A : Option Addr) (la ca : Nat) (zs : List Int) (B : Option Addr) (lb cb : Nat) (ys : List Int) (f : Bool) (w : World) (hG : Good w) (ha : InRow w A la ca zs) (hb : InRow w B lb cb ys) : Calls Tryd.prog 10 #[.slice A la ca, .slice B lb cb, .bool f] w fun e w' => e = .returned (.bool true) ∧ Below w.heap.size w w' := by
  have HG := Lib.hid hG
  have HA := Lib.hid ha
  have HB := Lib.hid hb
  obtain ⟨ma, hma, hma20, hmal, hlac, hzl, hsa⟩ := slc20 ha
  obtain ⟨mb0, hmb, hmb20, hmbl, hlbc, hyl, hsb⟩ := slc20 hb
  have HMA := Lib.hid (And.intro hma20 (And.intro hmal (And.intro hlac hzl)))
  have HMB := Lib.hid (And.intro hmb20 (And.intro hmbl (And.intro hlbc hyl)))
  have HSA := Lib.hid (And.intro hma hsa)
  have HSB := Lib.hid (And.intro hmb hsb)
  clear hG ha hb hma hma20 hmal hlac hzl hsa hmb hmb20 hmbl hlbc hyl hsb
  go_enter Tryd.func10, Tryd.ntmps10
  go_wp2_with (fail)
  go_at_call 39
  (with_reducible refine (dnew (w := w) 2 20 (Below.refl _ _)).mono ?_)
  rintro e w1 ⟨d, pg, M, rfl, h1, b1⟩
  have H1 : Hid (DS w w1 d pg M 2 0 [] 20 0 (.map []) 20 F0) := Lib.hid h1
  clear h1 b1
  go_wp2_with (fail)
  go_at_call 40
  (with_reducible refine (oopenA H1.out).mono ?_)
  rintro e w2 ⟨p, sg, mb, rfl, h2, k2⟩
  have B2 := below_alloc (Below.refl w2.heap.size w2) (.cells #[.int .i64 0, .int .i64 1] 40)
  have H2 := Lib.hid (h2.below B2)
  have HH := Lib.hid (show Hn (w2.alloc (.cells #[.int .i64 0, .int .i64 1] 40)) w2.heap.size 0 1 from heap_alloc_new w2 _)
  clear h2 k2 H1 B2
  go_upto_region 5 with (fail)
  generalize w2.alloc (.cells #[.int .i64 0, .int .i64 1] 40) = W2 at *
  generalize w2.heap.size = h0 at *
  go_wp2_with (fail)
  go_at_call 40
  (with_reducible refine (oopenB H2.out).mono ?_)
  rintro e w3 ⟨q, sg2, mb2, rfl, h3, k3⟩
  have B3 := below_alloc (Below.refl w3.heap.size w3) (.cells #[.int .i64 1, .int .i64 1] 40)
  have H3 := Lib.hid (h3.below B3)
  have HH3 := Lib.hid (show Hn _ _ _ _ from blk_below (keeps_hn HH.out k3) B3)
  have HK3 := Lib.hid (show Hn (w3.alloc (.cells #[.int .i64 1, .int .i64 1] 40)) w3.heap.size 1 1 from heap_alloc_new w3 _)
  clear h3 k3 H2 B3 HH
  go_upto_region 6 with (fail)
  generalize w3.alloc (.cells #[.int .i64 1, .int .i64 1] 40) = W3 at *
  generalize w3.heap.size = k0 at *
  have kc := fun (w : World) (C : Array Value) (n c : Nat) => Lib.run_convert_bytes_const (P := Tryd.prog) w 80 5 C n c Tryd.underlying80 Tryd.underlying5
  have q0 := (blk_cell HH3.out 0).trans (show _ = some (Value.int .i64 0) from rfl)
  have q1 := (blk_cell HH3.out 1).trans (show _ = some (Value.int .i64 1) from rfl)
  go_wp2_with (fail)
  have HC := Lib.hid (bytes1 W3 97)
  have B4 := below_alloc (Below.refl W3.heap.size W3) (.cells #[.int .u8 97] 5 (1, 2))
  have H4 := Lib.hid (H3.out.below B4)
  have HH4 := Lib.hid (show Hn _ _ _ _ from blk_below HH3.out B4)
  have HK4 := Lib.hid (show Hn _ _ _ _ from blk_below HK3.out B4)
  clear B4 H3 HH3 HK3 q0 q1
  go_at_call 41
  (with_reducible refine (osendA H4.out _ HC.out).mono ?_)
  rintro e w5 ⟨v, rfl, h5, k5⟩
  have H5 := Lib.hid h5
  have HH5 := Lib.hid (keeps_hn HH4.out k5)
  have HK5 := Lib.hid (keeps_hn HK4.out k5)
  clear h5 k5 H4 HH4 HK4 HC
  have q0 := (blk_cell HK5.out 0).trans (show _ = some (Value.int .i64 1) from rfl)
  have q1 := (blk_cell HK5.out 1).trans (show _ = some (Value.int .i64 1) from rfl)
  go_wp2_with (fail)
  have HC := Lib.hid (bytes1 w5 98)
  have B6 := below_alloc (Below.refl w5.heap.size w5) (.cells #[.int .u8 98] 5 (1, 2))
  have H6 := Lib.hid (H5.out.below B6)
  have HH6 := Lib.hid (show Hn _ _ _ _ from blk_below HH5.out B6)
  have HK6 := Lib.hid (show Hn _ _ _ _ from blk_below HK5.out B6)
  clear B6 H5 HH5 HK5 q0 q1
  go_at_call 41
  (with_reducible refine (osendB H6.out _ HC.out).mono ?_)
  rintro e w7 ⟨v2, rfl, h7, k7⟩
  have H7 := Lib.hid h7
  have HH7 := Lib.hid (keeps_hn HH6.out k7)
  have HK7 := Lib.hid (keeps_hn HK6.out k7)
  clear h7 k7 H6 HH6 HK6 HC kc
  go_upto_region 8 with (fail)
  have q0 := (blk_cell HH7.out 0).trans (show _ = some (Value.int .i64 0) from rfl)
  have q1 := (blk_cell HH7.out 1).trans (show _ = some (Value.int .i64 1) from rfl)
  have r0 := (blk_cell HK7.out 0).trans (show _ = some (Value.int .i64 1) from rfl)
  have r1 := (blk_cell HK7.out 1).trans (show _ = some (Value.int .i64 1) from rfl)
  have hma := HSA.out.1
  have hsa := HSA.out.2
  have hmb := HSB.out.1
  have hsb := HSB.out.2
  go_cut [12, 13] (fun v12 v13 wc => ∃ x y, v12 = .slice (some ⟨x, 0, none⟩) 2 2 ∧ v13 = .slice (some ⟨y, 0, none⟩) 2 2 ∧ Hid (wc.heap[x]? = some (.cells #[.int .i64 0, .int .i64 1, .int .i64 1, .int .i64 1] 40 (0, 0))) ∧ Hid (wc.heap[y]? = some (.cells #[.slice A ma ca, .slice B mb0 cb] 35 (0, 0))) ∧ Hid (Below w7.heap.size w7 wc))
  case first =>
    -- [[ R8
    as_aux_lemma =>
      go_region_held3 (fun w' => w'.cell? ⟨h0, 0, none⟩ = some (.int .i64 0) ∧ w'.cell? ⟨h0, 1, none⟩ = some (.int .i64 1) ∧ w'.cell? ⟨k0, 0, none⟩ = some (.int .i64 1) ∧ w'.cell? ⟨k0, 1, none⟩ = some (.int .i64 1)) (first | go_keep | exact ⟨q0, q1, r0, r1⟩) (fail)
      all_goals
        go_wp2
        go_meet
        case rel => first
          | exact ⟨_, _, rfl, rfl, Lib.hid (pair2 _ _ _).2.1, Lib.hid (pair2 _ _ _).2.2, Lib.hid (pair2 _ _ _).1⟩
          | exact ⟨_, _, rfl, rfl, Lib.hid (pair2 _ _ _).2.2, Lib.hid (pair2 _ _ _).2.1, Lib.hid (pair2 _ _ _).1⟩
    -- ]]
  case rest =>
    obtain ⟨x, y, rfl, rfl, HX, HY, HBc⟩ := hcut
    have H8 := Lib.hid (H7.out.below HBc.out)
    clear q0 q1 r0 r1 hma hsa hmb hsb H7 HH7 HK7 HBc HSA HSB
    go_wp2_with (fail)
    have HZ := Lib.hid (show SN (wc.alloc (.cells #[.slice none 0 0, .slice none 0 0] 82)) w.heap.size x wc.heap.size (.slice none 0 0) (.slice none 0 0) 0 0 from ⟨heap_alloc_new wc _, Kd.R_nil _ _ _ _ _, Kd.R_nil _ _ _ _ _, fun k hk => by simp [Value.ownBlock] at hk⟩)
    have HZL := Lib.hid (show w.heap.size ≤ wc.heap.size from H8.out.bl.size)
    have B9 := below_alloc (Below.refl wc.heap.size wc) (.cells #[.slice none 0 0, .slice none 0 0] 82)
    have H9 := Lib.hid (H8.out.below B9)
    have HX9 := Lib.hid ((B9.block x (blk_lt HX.out)).trans HX.out)
    have HY9 := Lib.hid ((B9.block y (blk_lt HY.out)).trans HY.out)
    clear B9 H8 HX HY
    generalize wc.alloc (.cells #[.slice none 0 0, .slice none 0 0] 82) = w9 at *
    generalize wc.heap.size = z at *
    go_loopg [15] 2 (fun gk v15 wr => ∃ (i n0 n1 : Nat) (D0 D1 : DataW Unit) (r0 r1 : Value), v15 = .int .i64 (i : Int) ∧ i ≤ 2 ∧ 2 - i ≤ gk ∧ n0 = (if 0 < i then ma else 0) ∧ n1 = (if 1 < i then mb0 else 0) ∧ Hid (OD w wr d pg M p q (sT sg mb v 97 n0 D0) (sT sg2 mb2 v2 98 n1 D1)) ∧ Hid (RD D0 (zs.take n0)) ∧ Hid (RD D1 (ys.take n1)) ∧ Hid (wr.heap[x]? = some (.cells #[.int .i64 0, .int .i64 1, .int .i64 1, .int .i64 1] 40 (0, 0))) ∧ Hid (wr.heap[y]? = some (.cells #[.slice A ma ca, .slice B mb0 cb] 35 (0, 0))) ∧ Hid (SN wr w.heap.size x z r0 r1 n0 n1))
    case atStart => exact ⟨0, 0, 0, _, _, _, _, rfl, by omega, by omega, rfl, rfl, H9, Lib.hid RD.nil, Lib.hid RD.nil, HX9, HY9, HZ⟩
    case round =>
      clear H9 HX9 HY9 HZ
      obtain ⟨i, n0, n1, D0, D1, r0, r1, rfl, hi, hk, hn0, hn1, HO, HRA, HRB, HX, HY, HZ⟩ := hrel
      rcases (show i = 0 ∨ i = 1 ∨ i = 2 by omega) with rfl | rfl | rfl
      · obtain rfl : n0 = 0 := by simpa using hn0
        obtain rfl : n1 = 0 := by simpa using hn1
        -- [[ L0
        clear hn0 hn1 hi
        go_wp2_with (fail)
        go_loopg [16] ma (fun gk2 v16 wq => ∃ (j : Nat) (D0 : DataW Unit) (r0 : Value), v16 = .int .i64 (j : Int) ∧ j ≤ ma ∧ ma - j ≤ gk2 ∧ Hid (OD w wq d pg M p q (sT sg mb v 97 j D0) (sT sg2 mb2 v2 98 0 D1)) ∧ Hid (RD D0 (zs.take j)) ∧ Hid (wq.heap[x]? = some (.cells #[.int .i64 0, .int .i64 1, .int .i64 1, .int .i64 1] 40 (0, 0))) ∧ Hid (wq.heap[y]? = some (.cells #[.slice A ma ca, .slice B mb0 cb] 35 (0, 0))) ∧ Hid (SN wq w.heap.size x z r0 r1 j 0))
        case atStart => exact ⟨0, _, _, rfl, by omega, by omega, HO, HRA, HX, HY, HZ⟩
        case round =>
          clear HO HX HY HZ HRA
          obtain ⟨j, D0, r0, rfl, hj, hjk, HO, HRA, HX, HY, HZ⟩ := hrel
          have y0 := (blk_cell HY.out 0).trans (show _ = some (Value.slice A ma ca) from rfl)
          by_cases hjm : j < ma
          · have cj : (j : Int) < (ma : Int) := by omega
            have cj0 : (0 : Int) ≤ (j : Int) := by omega
            have cj9 : (j : Int) ≤ 100 := by have := HMA.out.1; omega
            obtain ⟨xa, rfl, hxa, hwf⟩ := HA.out.get j (by have := HMA.out.2.1; omega)
            obtain ⟨rj, hrj⟩ : ∃ rj, zs.getD j 0 = rj := ⟨_, rfl⟩
            rw [hrj] at hxa hwf
            have HXA := Lib.hid hxa
            have HWF := Lib.hid hwf
            have HRJ := Lib.hid hrj
            have HJM := Lib.hid (And.intro hjm hjk)
            clear hxa hwf hrj hjk
            go_upto_region 16 with (fail)
            go_cut [17, 18] (fun v17 v18 wd => ∃ hb, v17 = .pointer (some ⟨hb, 0, none⟩) ∧ v18 = .nilIface ∧ Hid (wr.heap.size ≤ hb) ∧ Hid (OD w wd d pg M p q (sT sg mb v 97 (j + 1) (D0.put (.int .i64 (j : Int)) (.lit (.int .i64 rj)))) (sT sg2 mb2 v2 98 0 D1)) ∧ Hid (Hn wd hb (j : Int) 1) ∧ Hid (Keeps DT wr wd))
            case first =>
              -- [[ K0
              as_aux_lemma =>
                have HK1 := Lib.hid (Below.refl wr.heap.size wr)
                have HC : Hid (∀ W', Below wr.heap.size wr W' → Calls Tryd.prog 42 #[.pointer (some ⟨d, 0, none⟩), .agg #[.int .i64 0, .int .i64 1], .int .i64 rj] W' fun e w' => e = .returned (.tuple #[.agg #[.int .i64 (j : Int), .int .i64 1], .nilIface]) ∧ OD w w' d pg M p q (sT sg mb v 97 (j + 1) (D0.put (.int .i64 (j : Int)) (.lit (.int .i64 rj)))) (sT sg2 mb2 v2 98 0 D1) ∧ Keeps DT W' w') := Lib.hid (fun W' hb' => okeep0 (HO.out.below hb') HWF.out (by have := HJM.out.1; have := HMA.out.1; omega))
                have c0 := (blk_cell HX.out 0).trans (show _ = some (Value.int .i64 0) from rfl)
                have c1 := (blk_cell HX.out 1).trans (show _ = some (Value.int .i64 1) from rfl)
                have c3 := (HO.out.bl.cell (cell_lt HXA.out)).trans HXA.out
                have HNE := Lib.hid (show x ≠ wr.heap.size ∧ y ≠ wr.heap.size ∧ (xa.add j).block ≠ wr.heap.size from ⟨by have := blk_lt HX.out; omega, by have := blk_lt HY.out; omega, by have := cell_lt HXA.out; have := HO.out.bl.size; omega⟩)
                go_region_held3 (fun w' => w'.cell? ⟨x, 0, none⟩ = some (.int .i64 0) ∧ w'.cell? ⟨x, 1, none⟩ = some (.int .i64 1) ∧ w'.cell? ⟨y, 0, none⟩ = some (.slice (some xa) ma ca) ∧ w'.cell? (xa.add j) = some (.int .i64 rj)) (first | go_keep | exact ⟨c0, c1, y0, c3⟩ | exact ⟨d0, d1, d2, d3⟩ | exact ⟨cells_set2 d0 HNE.out.1, cells_set2 d1 HNE.out.1, cells_set2 d2 HNE.out.2.1, cells_set2 d3 HNE.out.2.2⟩) ((go_at_call 42; (with_reducible refine (HC.out _ (by first | exact HK1.out | exact below_drew1 HK1.out | exact below_alloc (below_drew1 HK1.out) _ | exact below_drew1 (below_alloc HK1.out _) | exact below_drew1 (below_alloc (below_drew1 HK1.out) _) | exact below_alloc HK1.out _)).mono ?_); rintro e wx ⟨rfl, ho, hk⟩; have HO2 := Lib.hid ho; have HK2 := Lib.hid (show Keeps DT wr wx from (Keeps.below (by first | exact HK1.out | exact below_drew1 HK1.out | exact below_alloc (below_drew1 HK1.out) _ | exact below_drew1 (below_alloc HK1.out _) | exact below_drew1 (below_alloc (below_drew1 HK1.out) _) | exact below_alloc HK1.out _)).trans hk); (have d0 : wx.cell? ⟨x, 0, none⟩ = some (.int .i64 0) := (blk_cell ((HK2.out.2 x _ _ _ HX.out (by decide)).trans HX.out) 0).trans rfl); (have d1 : wx.cell? ⟨x, 1, none⟩ = some (.int .i64 1) := (blk_cell ((HK2.out.2 x _ _ _ HX.out (by decide)).trans HX.out) 1).trans rfl); (have d2 : wx.cell? ⟨y, 0, none⟩ = some (.slice (some xa) ma ca) := (blk_cell ((HK2.out.2 y _ _ _ HY.out (by decide)).trans HY.out) 0).trans rfl); (have d3 : wx.cell? (xa.add j) = some (.int .i64 rj) := (HO2.out.bl.cell (cell_lt HXA.out)).trans HXA.out); (try (have hz : wx.heap[wr.heap.size]? = some (.cells #[.int .i64 0, .int .i64 0] 40 (0, 0)) := (hk.2 wr.heap.size #[.int .i64 0, .int .i64 0] 40 (0, 0) (heap_alloc_new wr (.cells #[.int .i64 0, .int .i64 0] 40)) (by decide)).trans (heap_alloc_new wr (.cells #[.int .i64 0, .int .i64 0] 40)); have HZZ := Lib.hid hz; have z0 := blk_frozen hz 0; have z1 := blk_frozen hz 1; have zc0 := (blk_cell hz 0).trans (show _ = some (Value.int .i64 0) from rfl); have zc1 := (blk_cell hz 1).trans (show _ = some (Value.int .i64 0) from rfl); clear hz)); clear ho hk))
                all_goals
                  go_wp2
                  go_meet
                  case rel => first
                    | exact ⟨_, rfl, rfl, Lib.hid (Nat.le_refl _), Lib.hid (HO2.out.set2 HZZ.out HO.out.bl.size _ _), Lib.hid (hn_set2 HZZ.out), Lib.hid (keeps_set2 HK2.out _ _)⟩
                    | exact ⟨_, rfl, rfl, Lib.hid HK2.out.1, Lib.hid (HO2.out.below (below_alloc (Below.refl _ _) _)), Lib.hid (heap_alloc_new wx _), Lib.hid (HK2.out.trans (Keeps.below (below_alloc (Below.refl _ _) _)))⟩
              -- ]]
            case rest =>
              obtain ⟨hb, rfl, rfl, HLE, HOd, HN, HKd⟩ := hcut
              have HX2 := Lib.hid ((HKd.out.2 x _ _ _ HX.out (by decide)).trans HX.out)
              have HY2 := Lib.hid ((HKd.out.2 y _ _ _ HY.out (by decide)).trans HY.out)
              have HZ2 := Lib.hid (HZ.out.keeps HKd.out)
              have HOW := Lib.hid (show ∀ k, r0.ownBlock = some k → k < wr.heap.size from Kd.R_lt HZ.out.h0)
              have HZW := Lib.hid (show z < wr.heap.size from blk_lt HZ.out.hz)
              clear HO HX HY HZ HKd y0
              obtain ⟨Ar, cr, hvr⟩ := Kd.R_slice HZ2.out.h0
              subst hvr
              go_upto_region 19 with (fail)
              -- [[ A0
              as_aux_lemma =>
                have q0 := (blk_cell HN.out 0).trans (show _ = some (Value.int .i64 (j : Int)) from rfl)
                have q1 := (blk_cell HN.out 1).trans (show _ = some (Value.int .i64 1) from rfl)
                have zc := (blk_cell HZ2.out.hz 0).trans (show _ = some (Value.slice Ar (hsOf j).length cr) from rfl)
                have zcA : (wc.alloc (Obj.cells #[.int .i64 (j : Int), .int .i64 1] 40)).cell? ⟨z, 0, none⟩ = some (Value.slice Ar (hsOf j).length cr) := ((below_alloc (Below.refl wc.heap.size wc) _).cell (cell_lt zc)).trans zc
                go_region_law ((refine app40_d (w0 := w) (W := wc) w.heap.size (by rfl) (.tmp 118) (.tmp 120) rfl Ar cr (hsOf j) (j : Int) 1 (fun k => r1.ownBlock ≠ some k ∧ k ≠ x) rfl rfl (HZ2.out.fresh0 (blk_lt HX2.out)) HZ2.out.row0 HOd.out.bl HOd.out.bl.size (by rw [hsOf_len]; have := HJM.out.1; have := HMA.out.1; omega) ?_); intro v9 w9 ho9 hb9 hg9; obtain ⟨A9, l9, c9, rfl⟩ := R_sl ho9; have HO9 := Lib.hid ho9; have HB9 := Lib.hid hb9; have HG9 := Lib.hid hg9; clear ho9 hb9 hg9; have hz9 := (HG9.out.block z (blk_lt HZ2.out.hz) (Kd.R_ne HZ2.out.h0 HZ2.out.hz (by decide))).trans HZ2.out.hz; have zc9 := (blk_cell hz9 0).trans (show _ = some (Value.slice Ar (hsOf j).length cr) from rfl); have zf9 := blk_frozen hz9 0; have hn9 := (HG9.out.block hb (blk_lt HN.out) (fun e => by have := HOW.out hb e.symm; have := HLE.out; omega)).trans HN.out; (have d0 : w9.cell? ⟨hb, 0, none⟩ = some (.int .i64 (j : Int)) := (blk_cell hn9 0).trans rfl); (have d1 : w9.cell? ⟨hb, 1, none⟩ = some (.int .i64 1) := (blk_cell hn9 1).trans rfl); have HNE := Lib.hid (show hb ≠ z by have := HLE.out; have := HZW.out; omega); have HZ9 := Lib.hid hz9; clear hz9 hn9)
                all_goals
                  go_wp2
                  go_roundg (ma - (j + 1))
                  case measure => have := HJM.out.1; have := HJM.out.2; omega
                  case rel => exact ⟨j + 1, _, _, by simp, by have := HJM.out.1; omega, by omega, Lib.hid ((HOd.out.grown HZ2.out.h0 HG9.out HB9.out).cell HZ9.out (.inr rfl) HZL.out 0 _), Lib.hid (HRA.out.next (by have := HMA.out.2.2.2; rw [List.length_take] at this; have := HJM.out.1; omega) HRJ.out), Lib.hid (grown_blk HZ2.out.h0 HG9.out HZ2.out.hz HX2.out (.inr ⟨rfl, .inl rfl⟩)), Lib.hid (grown_blk HZ2.out.h0 HG9.out HZ2.out.hz HY2.out (.inl rfl)), Lib.hid (HZ2.out.app0 HO9.out HG9.out)⟩
              -- ]]
          · obtain rfl : j = ma := by omega
            clear hjm hj hjk
            go_wp2_with (fail)
            go_roundg (2 - (0 + 1))
            case measure => omega
            case rel => exact ⟨0 + 1, j, 0, D0, D1, r0, r1, rfl, by omega, by omega, by simp, by simp, HO, HRA, HRB, HX, HY, HZ⟩
        -- ]]
      · obtain rfl : ma = n0 := by simp at hn0; exact hn0.symm
        obtain rfl : n1 = 0 := by simpa using hn1
        -- [[ L1
        clear hn0 hn1 hi
        go_wp2_with (fail)
        go_loopg [16] mb0 (fun gk2 v16 wq => ∃ (j : Nat) (D1 : DataW Unit) (r1 : Value), v16 = .int .i64 (j : Int) ∧ j ≤ mb0 ∧ mb0 - j ≤ gk2 ∧ Hid (OD w wq d pg M p q (sT sg mb v 97 ma D0) (sT sg2 mb2 v2 98 j D1)) ∧ Hid (RD D1 (ys.take j)) ∧ Hid (wq.heap[x]? = some (.cells #[.int .i64 0, .int .i64 1, .int .i64 1, .int .i64 1] 40 (0, 0))) ∧ Hid (wq.heap[y]? = some (.cells #[.slice A ma ca, .slice B mb0 cb] 35 (0, 0))) ∧ Hid (SN wq w.heap.size x z r0 r1 ma j))
        case atStart => exact ⟨0, _, _, rfl, by omega, by omega, HO, HRB, HX, HY, HZ⟩
        case round =>
          clear HO HX HY HZ HRB
          obtain ⟨j, D1, r1, rfl, hj, hjk, HO, HRB, HX, HY, HZ⟩ := hrel
          have y0 := (blk_cell HY.out 1).trans (show _ = some (Value.slice B mb0 cb) from rfl)
          by_cases hjm : j < mb0
          · have cj : (j : Int) < (mb0 : Int) := by omega
            have cj0 : (0 : Int) ≤ (j : Int) := by omega
            have cj9 : (j : Int) ≤ 100 := by have := HMB.out.1; omega
            obtain ⟨xb, rfl, hxa, hwf⟩ := HB.out.get j (by have := HMB.out.2.1; omega)
            obtain ⟨rj, hrj⟩ : ∃ rj, ys.getD j 0 = rj := ⟨_, rfl⟩
            rw [hrj] at hxa hwf
            have HXA := Lib.hid hxa
            have HWF := Lib.hid hwf
            have HRJ := Lib.hid hrj
            have HJM := Lib.hid (And.intro hjm hjk)
            clear hxa hwf hrj hjk
            go_upto_region 16 with (fail)
            go_cut [17, 18] (fun v17 v18 wd => ∃ hb, v17 = .pointer (some ⟨hb, 0, none⟩) ∧ v18 = .nilIface ∧ Hid (wr.heap.size ≤ hb) ∧ Hid (OD w wd d pg M p q (sT sg mb v 97 ma D0) (sT sg2 mb2 v2 98 (j + 1) (D1.put (.int .i64 (j : Int)) (.lit (.int .i64 rj))))) ∧ Hid (Hn wd hb (j : Int) 1) ∧ Hid (Keeps DT wr wd))
            case first =>
              -- [[ K1
              as_aux_lemma =>
                have HK1 := Lib.hid (Below.refl wr.heap.size wr)
                have HC : Hid (∀ W', Below wr.heap.size wr W' → Calls Tryd.prog 42 #[.pointer (some ⟨d, 0, none⟩), .agg #[.int .i64 1, .int .i64 1], .int .i64 rj] W' fun e w' => e = .returned (.tuple #[.agg #[.int .i64 (j : Int), .int .i64 1], .nilIface]) ∧ OD w w' d pg M p q (sT sg mb v 97 ma D0) (sT sg2 mb2 v2 98 (j + 1) (D1.put (.int .i64 (j : Int)) (.lit (.int .i64 rj)))) ∧ Keeps DT W' w') := Lib.hid (fun W' hb' => okeep1 (HO.out.below hb') HWF.out (by have := HJM.out.1; have := HMB.out.1; omega))
                have c0 := (blk_cell HX.out 2).trans (show _ = some (Value.int .i64 1) from rfl)
                have c1 := (blk_cell HX.out 3).trans (show _ = some (Value.int .i64 1) from rfl)
                have c3 := (HO.out.bl.cell (cell_lt HXA.out)).trans HXA.out
                have HNE := Lib.hid (show x ≠ wr.heap.size ∧ y ≠ wr.heap.size ∧ (xb.add j).block ≠ wr.heap.size from ⟨by have := blk_lt HX.out; omega, by have := blk_lt HY.out; omega, by have := cell_lt HXA.out; have := HO.out.bl.size; omega⟩)
                go_region_held3 (fun w' => w'.cell? ⟨x, 2, none⟩ = some (.int .i64 1) ∧ w'.cell? ⟨x, 3, none⟩ = some (.int .i64 1) ∧ w'.cell? ⟨y, 1, none⟩ = some (.slice (some xb) mb0 cb) ∧ w'.cell? (xb.add j) = some (.int .i64 rj)) (first | go_keep | exact ⟨c0, c1, y0, c3⟩ | exact ⟨d0, d1, d2, d3⟩ | exact ⟨cells_set2 d0 HNE.out.1, cells_set2 d1 HNE.out.1, cells_set2 d2 HNE.out.2.1, cells_set2 d3 HNE.out.2.2⟩) ((go_at_call 42; (with_reducible refine (HC.out _ (by first | exact HK1.out | exact below_drew1 HK1.out | exact below_alloc (below_drew1 HK1.out) _ | exact below_drew1 (below_alloc HK1.out _) | exact below_drew1 (below_alloc (below_drew1 HK1.out) _) | exact below_alloc HK1.out _)).mono ?_); rintro e wx ⟨rfl, ho, hk⟩; have HO2 := Lib.hid ho; have HK2 := Lib.hid (show Keeps DT wr wx from (Keeps.below (by first | exact HK1.out | exact below_drew1 HK1.out | exact below_alloc (below_drew1 HK1.out) _ | exact below_drew1 (below_alloc HK1.out _) | exact below_drew1 (below_alloc (below_drew1 HK1.out) _) | exact below_alloc HK1.out _)).trans hk); (have d0 : wx.cell? ⟨x, 2, none⟩ = some (.int .i64 1) := (blk_cell ((HK2.out.2 x _ _ _ HX.out (by decide)).trans HX.out) 2).trans rfl); (have d1 : wx.cell? ⟨x, 3, none⟩ = some (.int .i64 1) := (blk_cell ((HK2.out.2 x _ _ _ HX.out (by decide)).trans HX.out) 3).trans rfl); (have d2 : wx.cell? ⟨y, 1, none⟩ = some (.slice (some xb) mb0 cb) := (blk_cell ((HK2.out.2 y _ _ _ HY.out (by decide)).trans HY.out) 1).trans rfl); (have d3 : wx.cell? (xb.add j) = some (.int .i64 rj) := (HO2.out.bl.cell (cell_lt HXA.out)).trans HXA.out); (try (have hz : wx.heap[wr.heap.size]? = some (.cells #[.int .i64 0, .int .i64 0] 40 (0, 0)) := (hk.2 wr.heap.size #[.int .i64 0, .int .i64 0] 40 (0, 0) (heap_alloc_new wr (.cells #[.int .i64 0, .int .i64 0] 40)) (by decide)).trans (heap_alloc_new wr (.cells #[.int .i64 0, .int .i64 0] 40)); have HZZ := Lib.hid hz; have z0 := blk_frozen hz 0; have z1 := blk_frozen hz 1; have zc0 := (blk_cell hz 0).trans (show _ = some (Value.int .i64 0) from rfl); have zc1 := (blk_cell hz 1).trans (show _ = some (Value.int .i64 0) from rfl); clear hz)); clear ho hk))
                all_goals
                  go_wp2
                  go_meet
                  case rel => first
                    | exact ⟨_, rfl, rfl, Lib.hid (Nat.le_refl _), Lib.hid (HO2.out.set2 HZZ.out HO.out.bl.size _ _), Lib.hid (hn_set2 HZZ.out), Lib.hid (keeps_set2 HK2.out _ _)⟩
                    | exact ⟨_, rfl, rfl, Lib.hid HK2.out.1, Lib.hid (HO2.out.below (below_alloc (Below.refl _ _) _)), Lib.hid (heap_alloc_new wx _), Lib.hid (HK2.out.trans (Keeps.below (below_alloc (Below.refl _ _) _)))⟩
              -- ]]
            case rest =>
              obtain ⟨hb, rfl, rfl, HLE, HOd, HN, HKd⟩ := hcut
              have HX2 := Lib.hid ((HKd.out.2 x _ _ _ HX.out (by decide)).trans HX.out)
              have HY2 := Lib.hid ((HKd.out.2 y _ _ _ HY.out (by decide)).trans HY.out)
              have HZ2 := Lib.hid (HZ.out.keeps HKd.out)
              have HOW := Lib.hid (show ∀ k, r1.ownBlock = some k → k < wr.heap.size from Kd.R_lt HZ.out.h1)
              have HZW := Lib.hid (show z < wr.heap.size from blk_lt HZ.out.hz)
              clear HO HX HY HZ HKd y0
              obtain ⟨Ar, cr, hvr⟩ := Kd.R_slice HZ2.out.h1
              subst hvr
              go_upto_region 19 with (fail)
              -- [[ A1
              as_aux_lemma =>
                have q0 := (blk_cell HN.out 0).trans (show _ = some (Value.int .i64 (j : Int)) from rfl)
                have q1 := (blk_cell HN.out 1).trans (show _ = some (Value.int .i64 1) from rfl)
                have zc := (blk_cell HZ2.out.hz 1).trans (show _ = some (Value.slice Ar (hsOf j).length cr) from rfl)
                have zcA : (wc.alloc (Obj.cells #[.int .i64 (j : Int), .int .i64 1] 40)).cell? ⟨z, 1, none⟩ = some (Value.slice Ar (hsOf j).length cr) := ((below_alloc (Below.refl wc.heap.size wc) _).cell (cell_lt zc)).trans zc
                go_region_law ((refine app40_d (w0 := w) (W := wc) w.heap.size (by rfl) (.tmp 118) (.tmp 120) rfl Ar cr (hsOf j) (j : Int) 1 (fun k => r0.ownBlock ≠ some k ∧ k ≠ x) rfl rfl (HZ2.out.fresh1 (blk_lt HX2.out)) HZ2.out.row1 HOd.out.bl HOd.out.bl.size (by rw [hsOf_len]; have := HJM.out.1; have := HMB.out.1; omega) ?_); intro v9 w9 ho9 hb9 hg9; obtain ⟨A9, l9, c9, rfl⟩ := R_sl ho9; have HO9 := Lib.hid ho9; have HB9 := Lib.hid hb9; have HG9 := Lib.hid hg9; clear ho9 hb9 hg9; have hz9 := (HG9.out.block z (blk_lt HZ2.out.hz) (Kd.R_ne HZ2.out.h1 HZ2.out.hz (by decide))).trans HZ2.out.hz; have zc9 := (blk_cell hz9 1).trans (show _ = some (Value.slice Ar (hsOf j).length cr) from rfl); have zf9 := blk_frozen hz9 1; have hn9 := (HG9.out.block hb (blk_lt HN.out) (fun e => by have := HOW.out hb e.symm; have := HLE.out; omega)).trans HN.out; (have d0 : w9.cell? ⟨hb, 0, none⟩ = some (.int .i64 (j : Int)) := (blk_cell hn9 0).trans rfl); (have d1 : w9.cell? ⟨hb, 1, none⟩ = some (.int .i64 1) := (blk_cell hn9 1).trans rfl); have HNE := Lib.hid (show hb ≠ z by have := HLE.out; have := HZW.out; omega); have HZ9 := Lib.hid hz9; clear hz9 hn9)
                all_goals
                  go_wp2
                  go_roundg (mb0 - (j + 1))
                  case measure => have := HJM.out.1; have := HJM.out.2; omega
                  case rel => exact ⟨j + 1, _, _, by simp, by have := HJM.out.1; omega, by omega, Lib.hid ((HOd.out.grown HZ2.out.h1 HG9.out HB9.out).cell HZ9.out (.inr rfl) HZL.out 1 _), Lib.hid (HRB.out.next (by have := HMB.out.2.2.2; rw [List.length_take] at this; have := HJM.out.1; omega) HRJ.out), Lib.hid (grown_blk HZ2.out.h1 HG9.out HZ2.out.hz HX2.out (.inr ⟨rfl, .inl rfl⟩)), Lib.hid (grown_blk HZ2.out.h1 HG9.out HZ2.out.hz HY2.out (.inl rfl)), Lib.hid (HZ2.out.app1 HO9.out HG9.out)⟩
              -- ]]
          · obtain rfl : j = mb0 := by omega
            clear hjm hj hjk
            go_wp2_with (fail)
            go_roundg (2 - (1 + 1))
            case measure => omega
            case rel => exact ⟨1 + 1, ma, j, D0, D1, r0, r1, rfl, by omega, by omega, by simp, by simp, HO, HRA, HRB, HX, HY, HZ⟩
        -- ]]
      · obtain rfl : ma = n0 := by simp at hn0; exact hn0.symm
        obtain rfl : mb0 = n1 := by simp at hn1; exact hn1.symm
        clear hn0 hn1 hi hk
        cases f
        · -- f = false
          -- [[ T1
          go_upto_region 23 with (fail)
          have x0 := (blk_cell HX.out 0).trans (show _ = some (Value.int .i64 0) from rfl)
          have x1 := (blk_cell HX.out 1).trans (show _ = some (Value.int .i64 1) from rfl)
          have x2 := (blk_cell HX.out 2).trans (show _ = some (Value.int .i64 1) from rfl)
          have x3 := (blk_cell HX.out 3).trans (show _ = some (Value.int .i64 1) from rfl)
          go_wp2_with (fail)
          go_at_call 43
          (with_reducible refine (oclose1 HO.out HRB.out (by have := HMB.out.2.2.2; have := HMB.out.1; omega)).mono ?_)
          rintro e u1 ⟨vr, rfl, hr, ho, hk⟩
          obtain ⟨Ar, cr, rfl⟩ := Kd.R_slice hr
          rw [HMB.out.2.2.2]
          have HO1 := Lib.hid (show OC1 w u1 d pg M p q (sT sg mb v 97 ma D0) (sT sg2 mb2 v2 98 mb0 D1) from ho)
          have HX1 := Lib.hid ((hk.2 x _ _ _ HX.out (by decide)).trans HX.out)
          have HY1 := Lib.hid ((hk.2 y _ _ _ HY.out (by decide)).trans HY.out)
          have HZ1 := Lib.hid (HZ.out.keeps hk)
          have HR1 := Lib.hid hr
          clear hr ho hk HO HX HY HZ HRB x0 x1 x2 x3
          have y0 := (blk_cell HY1.out 0).trans (show _ = some (Value.slice A ma ca) from rfl)
          have y1 := (blk_cell HY1.out 1).trans (show _ = some (Value.slice B mb0 cb) from rfl)
          go_upto_region 26 with (go_at_call 44; (with_reducible refine (osame (xs := ys.take mb0) HMB.out.2.2.2 (by have := (Kd.R_reads' HR1.out).2.2; rwa [HMB.out.2.2.2] at this) ((HB.out.below HO1.out.bl).C HMB.out.2.1 HMB.out.2.2.2) HMB.out.1).mono ?_); rintro e u2 ⟨rfl, hb⟩; have HO2 := Lib.hid (HO1.out.below hb); have HX2 := Lib.hid ((hb.block x (blk_lt HX1.out)).trans HX1.out); have HY2 := Lib.hid ((hb.block y (blk_lt HY1.out)).trans HY1.out); have HZ2 := Lib.hid (HZ1.out.below hb); clear hb)
          clear HO1 HX1 HY1 HZ1 HR1 y0 y1
          have x0 := (blk_cell HX2.out 0).trans (show _ = some (Value.int .i64 0) from rfl)
          have x1 := (blk_cell HX2.out 1).trans (show _ = some (Value.int .i64 1) from rfl)
          have x2 := (blk_cell HX2.out 2).trans (show _ = some (Value.int .i64 1) from rfl)
          have x3 := (blk_cell HX2.out 3).trans (show _ = some (Value.int .i64 1) from rfl)
          go_cut [22, 23] (fun v22 v23 wd => ∃ a b, v22 = .pointer (some ⟨a, 0, none⟩) ∧ v23 = .pointer (some ⟨b, 0, none⟩) ∧ Hid (Hn wd a 1 1) ∧ Hid (Hn wd b 0 1) ∧ Hid (Below u2.heap.size u2 wd))
          case first =>
            -- [[ R261
            as_aux_lemma =>
              have w164 := w64_1
              have w064 := w64_0
              have w1 : IntKind.i64.wrap 1 = 1 := by decide
              have w0 : IntKind.i64.wrap 0 = 0 := by decide
              go_region_held3 (fun w' => w'.cell? ⟨x, 0, none⟩ = some (.int .i64 0) ∧ w'.cell? ⟨x, 1, none⟩ = some (.int .i64 1) ∧ w'.cell? ⟨x, 2, none⟩ = some (.int .i64 1) ∧ w'.cell? ⟨x, 3, none⟩ = some (.int .i64 1)) (first | go_keep | exact ⟨x0, x1, x2, x3⟩) (fail)
              all_goals
                go_wp2
                go_meet
                case rel => first
                  | exact ⟨_, _, rfl, rfl, Lib.hid (pair2 _ _ _).2.1, Lib.hid (pair2 _ _ _).2.2, Lib.hid (pair2 _ _ _).1⟩
                  | exact ⟨_, _, rfl, rfl, Lib.hid (pair2 _ _ _).2.2, Lib.hid (pair2 _ _ _).2.1, Lib.hid (pair2 _ _ _).1⟩
            -- ]]
          case rest =>
            obtain ⟨a, b, rfl, rfl, HXA, HYA, HBd⟩ := hcut
            have HO3 := Lib.hid (HO2.out.below HBd.out)
            have HY3 := Lib.hid ((HBd.out.block y (blk_lt HY2.out)).trans HY2.out)
            have HZ3 := Lib.hid (HZ2.out.below HBd.out)
            clear HO2 HX2 HY2 HZ2 HBd x0 x1 x2 x3
            have q0 := (blk_cell HYA.out 0).trans (show _ = some (Value.int .i64 0) from rfl)
            have q1 := (blk_cell HYA.out 1).trans (show _ = some (Value.int .i64 1) from rfl)
            go_wp2_with (fail)
            go_at_call 45
            (with_reducible refine (owaits1 HO3.out).mono ?_)
            rintro e u4 ⟨vw, rfl, hr, ho, hb⟩
            obtain ⟨Aw, cw, rfl⟩ := Kd.R_slice hr
            have HO4 := Lib.hid ho
            have HR4 := Lib.hid hr
            have HXA4 := Lib.hid (show Hn _ _ _ _ from blk_below HXA.out hb)
            have HYA4 := Lib.hid (show Hn _ _ _ _ from blk_below HYA.out hb)
            have HY4 := Lib.hid ((hb.block y (blk_lt HY3.out)).trans HY3.out)
            have HZ4 := Lib.hid (HZ3.out.below hb)
            clear hr ho hb HO3 HXA HYA HY3 HZ3 q0 q1
            have q0 := (blk_cell HXA4.out 0).trans (show _ = some (Value.int .i64 1) from rfl)
            have q1 := (blk_cell HXA4.out 1).trans (show _ = some (Value.int .i64 1) from rfl)
            go_wp2_with (fail)
            go_at_call 45
            (with_reducible refine (owaitsno1 HG.out HO4.out).mono ?_)
            rintro e u5 ⟨rfl, ho, hb⟩
            have HO5 := Lib.hid ho
            have HR5 := Lib.hid (Kd.R_below HR4.out hb)
            have HXA5 := Lib.hid (show Hn _ _ _ _ from blk_below HXA4.out hb)
            have HYA5 := Lib.hid (show Hn _ _ _ _ from blk_below HYA4.out hb)
            have HY5 := Lib.hid ((hb.block y (blk_lt HY4.out)).trans HY4.out)
            have HZ5 := Lib.hid (HZ4.out.below hb)
            clear ho hb HO4 HR4 HXA4 HYA4 HY4 HZ4 q0 q1
            go_upto_region 29 with (fail)
            go_cut [192] (fun v192 wd => v192 = .bool false ∧ Hid (Below u5.heap.size u5 wd))
            case first =>
              -- [[ R291
              as_aux_lemma =>
                have HC : Hid (∀ W', Below u5.heap.size u5 W' → Calls Tryd.prog 46 #[.pointer (some ⟨d, 0, none⟩)] W' fun e w' => ∃ A c, e = .returned (.slice A ma c) ∧ Below W'.heap.size W' w') := Lib.hid (fun W' hb' => (okept1 (HO5.out.below hb') HRA.out (by have := HMA.out.2.2.2; have := HMA.out.1; omega)).mono (fun e w' ⟨A, c, e1, _, b⟩ => ⟨A, c, by rw [e1, HMA.out.2.2.2], b⟩))
                have cy := (blk_cell HY5.out 0).trans (show _ = some (Value.slice A ma ca) from rfl)
                have HRD := Lib.hid (Kd.R_drew HR5.out)
                have HBD := Lib.hid (below_drew1 (Below.refl u5.heap.size u5))
                have s0 : (convert 80 9 (.slice Aw 1 cw)).run Tryd.prog u5.drew = .ok (.string { data := #[97] }) u5.drew := str80 (Kd.R_reads' HRD.out).2.2
                have cyd : u5.drew.cell? ⟨y, 0, none⟩ = some (Value.slice A ma ca) := cy
                clear cy
                have w1 : IntKind.i64.wrap 1 = 1 := by decide
                have w0 : IntKind.i64.wrap 0 = 0 := by decide
                have w164 := w64_1
                have w064 := w64_0
                refine start_ (n := 27) (S := fun w' => (convert 80 9 (.slice Aw 1 cw)).run Tryd.prog w' = .ok (.string { data := #[97] }) w' ∧ w'.cell? ⟨y, 0, none⟩ = some (.slice A ma ca)) (ds := []) #[false, false, false, false, false, false, false, false, false, false, false, false, false, false, false, false, false, false, false, false, false, false, false, false, false, false, false] (by kernel_rfl) rfl rfl ⟨s0, cyd⟩ (fun hHeld => ?_)
                generalize u5.drew = wd at *
                refine pure_ (i := 0) (N := some 166) (v := ?_) (a' := ?_) #[true, false, false, false, false, false, false, false, false, false, false, false, false, false, false, false, false, false, false, false, false, false, false, false, false, false, false] rfl rfl (by kernel_rfl) (fun _ _ _ h => h) (Or.inl ⟨by rfl, ?_⟩) ?_ ?_
                rotate_left
                · intro w'
                  go_simp
                  with_reducible rfl
                rotate_left
                · simp only [Act.put, List.setIfInBounds_toArray, List.set_cons_zero, List.set_cons_succ, i64_w, i32_w]
                  rfl
                refine pure_ (i := 1) (N := some 167) (v := ?_) (a' := ?_) #[true, true, false, false, false, false, false, false, false, false, false, false, false, false, false, false, false, false, false, false, false, false, false, false, false, false, false] rfl rfl (by kernel_rfl) (fun _ _ _ h => h) (Or.inl ⟨by rfl, ?_⟩) ?_ ?_
                rotate_left
                · intro w'
                  go_simp
                  with_reducible rfl
                rotate_left
                · simp only [Act.put, List.setIfInBounds_toArray, List.set_cons_zero, List.set_cons_succ, i64_w, i32_w]
                  rfl
                refine pure_ (i := 2) (N := some 168) (v := ?_) (a' := ?_) #[true, true, true, false, false, false, false, false, false, false, false, false, false, false, false, false, false, false, false, false, false, false, false, false, false, false, false] rfl rfl (by kernel_rfl) (fun _ _ _ h => h) (Or.inl ⟨by rfl, ?_⟩) ?_ ?_
                rotate_left
                · intro w'
                  go_simp
                  with_reducible rfl
                rotate_left
                · simp only [Act.put, List.setIfInBounds_toArray, List.set_cons_zero, List.set_cons_succ, i64_w, i32_w]
                  rfl
                refine pure_ (i := 3) (N := some 169) (v := ?_) (a' := ?_) #[true, true, true, true, false, false, false, false, false, false, false, false, false, false, false, false, false, false, false, false, false, false, false, false, false, false, false] rfl rfl (by kernel_rfl) (fun _ _ _ h => h) (Or.inl ⟨by rfl, ?_⟩) ?_ ?_
                rotate_left
                · intro w'
                  go_simp
                  with_reducible rfl
                rotate_left
                · simp only [Act.put, List.setIfInBounds_toArray, List.set_cons_zero, List.set_cons_succ, i64_w, i32_w]
                  rfl
                refine pure_ (i := 6) (N := some 172) (v := ?_) (a' := ?_) #[true, true, true, true, false, false, true, false, false, false, false, false, false, false, false, false, false, false, false, false, false, false, false, false, false, false, false] rfl rfl (by kernel_rfl) (fun _ _ _ h => h) (Or.inl ⟨by rfl, ?_⟩) ?_ ?_
                rotate_left
                · intro w'
                  go_simp
                  with_reducible rfl
                rotate_left
                · simp only [Act.put, List.setIfInBounds_toArray, List.set_cons_zero, List.set_cons_succ, i64_w, i32_w]
                  rfl
                refine pure_ (i := 7) (N := some 173) (v := ?_) (a' := ?_) #[true, true, true, true, false, false, true, true, false, false, false, false, false, false, false, false, false, false, false, false, false, false, false, false, false, false, false] rfl rfl (by kernel_rfl) (fun _ _ _ h => h) (Or.inl ⟨by rfl, ?_⟩) ?_ ?_
                rotate_left
                · intro w'
                  go_simp
                  with_reducible rfl
                rotate_left
                · simp only [Act.put, List.setIfInBounds_toArray, List.set_cons_zero, List.set_cons_succ, i64_w, i32_w]
                  rfl
                refine take_ (i := 4) (N := some 170) (v := ?_) (a' := ?_) #[true, true, true, true, true, false, true, true, false, false, false, false, false, false, false, false, false, false, false, false, false, false, false, false, false, false, false] rfl rfl (by kernel_rfl) (fun _ _ _ h => h) (Or.inl ⟨by rfl, ?_⟩) hHeld ?_ ?_
                rotate_left
                · rintro w' ⟨s0, s1⟩
                  go_simp
                  with_reducible rfl
                rotate_left
                · simp only [Act.put, List.setIfInBounds_toArray, List.set_cons_zero, List.set_cons_succ, i64_w, i32_w]
                  rfl
                refine one_ (i := 5) (N := some 171) #[true, true, true, true, true, true, true, true, false, false, false, false, false, false, false, false, false, false, false, false, false, false, false, false, false, false, false] rfl rfl (by kernel_rfl) (by decide) (fun K hK => ?_)
                refine value_ (w1 := ?_) (v := ?_) (by rfl) rfl ?_ ?_
                rotate_left 2
                · go_simp
                  constructor
                  · rfl
                  · rfl
                refine hK.out _ _ ⟨str80 (Kd.R_reads' (Kd.R_alloc HRD.out _)).2.2, ((below_alloc (Below.refl wd.heap.size wd) _).cell (cell_lt cyd)).trans cyd⟩ (fun hHeld => ?_)
                clear hK K
                refine norm_ (a' := ?_) ?_ ?_
                rotate_left
                · show Act.put _ (some 171) _ = _
                  simp only [Act.put, List.setIfInBounds_toArray, List.set_cons_zero, List.set_cons_succ, i64_w, i32_w]
                  rfl
                refine pure_ (i := 8) (N := some 174) (v := ?_) (a' := ?_) #[true, true, true, true, true, true, true, true, true, false, false, false, false, false, false, false, false, false, false, false, false, false, false, false, false, false, false] rfl rfl (by kernel_rfl) (fun _ _ _ h => h) (Or.inl ⟨by rfl, ?_⟩) ?_ ?_
                rotate_left
                · intro w'
                  go_simp
                  with_reducible rfl
                rotate_left
                · simp only [Act.put, List.setIfInBounds_toArray, List.set_cons_zero, List.set_cons_succ, i64_w, i32_w]
                  rfl
                refine one_ (i := 9) (N := some 175) #[true, true, true, true, true, true, true, true, true, true, false, false, false, false, false, false, false, false, false, false, false, false, false, false, false, false, false] rfl rfl (by kernel_rfl) (by decide) (fun K hK => ?_)
                refine value_ (w1 := ?_) (v := ?_) (by rfl) rfl ?_ ?_
                rotate_left 2
                · go_simp
                  constructor
                  · rfl
                  · rfl
                refine hK.out _ _ ⟨hHeld.1, hHeld.2⟩ (fun hHeld => ?_)
                clear hK K
                refine norm_ (a' := ?_) ?_ ?_
                rotate_left
                · show Act.put _ (some 175) _ = _
                  simp only [Act.put, List.setIfInBounds_toArray, List.set_cons_zero, List.set_cons_succ, i64_w, i32_w]
                  rfl
                refine pure_ (i := 10) (N := some 176) (v := ?_) (a' := ?_) #[true, true, true, true, true, true, true, true, true, true, true, false, false, false, false, false, false, false, false, false, false, false, false, false, false, false, false] rfl rfl (by kernel_rfl) (fun _ _ _ h => h) (Or.inl ⟨by rfl, ?_⟩) ?_ ?_
                rotate_left
                · intro w'
                  go_simp
                  with_reducible rfl
                rotate_left
                · simp only [Act.put, List.setIfInBounds_toArray, List.set_cons_zero, List.set_cons_succ, i64_w, i32_w]
                  rfl
                refine pure_ (i := 11) (N := some 177) (v := ?_) (a' := ?_) #[true, true, true, true, true, true, true, true, true, true, true, true, false, false, false, false, false, false, false, false, false, false, false, false, false, false, false] rfl rfl (by kernel_rfl) (fun _ _ _ h => h) (Or.inl ⟨by rfl, ?_⟩) ?_ ?_
                rotate_left
                · intro w'
                  go_simp
                  with_reducible rfl
                rotate_left
                · simp only [Act.put, List.setIfInBounds_toArray, List.set_cons_zero, List.set_cons_succ, i64_w, i32_w]
                  rfl
                refine pure_ (i := 12) (N := some 178) (v := ?_) (a' := ?_) #[true, true, true, true, true, true, true, true, true, true, true, true, true, false, false, false, false, false, false, false, false, false, false, false, false, false, false] rfl rfl (by kernel_rfl) (fun _ _ _ h => h) (Or.inl ⟨by rfl, ?_⟩) ?_ ?_
                rotate_left
                · intro w'
                  go_simp
                  with_reducible rfl
                rotate_left
                · simp only [Act.put, List.setIfInBounds_toArray, List.set_cons_zero, List.set_cons_succ, i64_w, i32_w]
                  rfl
                refine pure_ (i := 13) (N := some 179) (v := ?_) (a' := ?_) #[true, true, true, true, true, true, true, true, true, true, true, true, true, true, false, false, false, false, false, false, false, false, false, false, false, false, false] rfl rfl (by kernel_rfl) (fun _ _ _ h => h) (Or.inl ⟨by rfl, ?_⟩) ?_ ?_
                rotate_left
                · intro w'
                  go_simp
                  with_reducible rfl
                rotate_left
                · simp only [Act.put, List.setIfInBounds_toArray, List.set_cons_zero, List.set_cons_succ, i64_w, i32_w]
                  rfl
                refine pure_ (i := 14) (N := some 180) (v := ?_) (a' := ?_) #[true, true, true, true, true, true, true, true, true, true, true, true, true, true, true, false, false, false, false, false, false, false, false, false, false, false, false] rfl rfl (by kernel_rfl) (fun _ _ _ h => h) (Or.inl ⟨by rfl, ?_⟩) ?_ ?_
                rotate_left
                · intro w'
                  go_simp
                  with_reducible rfl
                rotate_left
                · simp only [Act.put, List.setIfInBounds_toArray, List.set_cons_zero, List.set_cons_succ, i64_w, i32_w]
                  rfl
                refine pure_ (i := 15) (N := some 181) (v := ?_) (a' := ?_) #[true, true, true, true, true, true, true, true, true, true, true, true, true, true, true, true, false, false, false, false, false, false, false, false, false, false, false] rfl rfl (by kernel_rfl) (fun _ _ _ h => h) (Or.inl ⟨by rfl, ?_⟩) ?_ ?_
                rotate_left
                · intro w'
                  go_simp
                  with_reducible rfl
                rotate_left
                · simp only [Act.put, List.setIfInBounds_toArray, List.set_cons_zero, List.set_cons_succ, i64_w, i32_w]
                  rfl
                refine pure_ (i := 16) (N := some 182) (v := ?_) (a' := ?_) #[true, true, true, true, true, true, true, true, true, true, true, true, true, true, true, true, true, false, false, false, false, false, false, false, false, false, false] rfl rfl (by kernel_rfl) (fun _ _ _ h => h) (Or.inl ⟨by rfl, ?_⟩) ?_ ?_
                rotate_left
                · intro w'
                  go_simp
                  with_reducible rfl
                rotate_left
                · simp only [Act.put, List.setIfInBounds_toArray, List.set_cons_zero, List.set_cons_succ, i64_w, i32_w]
                  rfl
                refine pure_ (i := 19) (N := some 185) (v := ?_) (a' := ?_) #[true, true, true, true, true, true, true, true, true, true, true, true, true, true, true, true, true, false, false, true, false, false, false, false, false, false, false] rfl rfl (by kernel_rfl) (fun _ _ _ h => h) (Or.inl ⟨by rfl, ?_⟩) ?_ ?_
                rotate_left
                · intro w'
                  go_simp
                  with_reducible rfl
                rotate_left
                · simp only [Act.put, List.setIfInBounds_toArray, List.set_cons_zero, List.set_cons_succ, i64_w, i32_w]
                  rfl
                refine pure_ (i := 20) (N := some 186) (v := ?_) (a' := ?_) #[true, true, true, true, true, true, true, true, true, true, true, true, true, true, true, true, true, false, false, true, true, false, false, false, false, false, false] rfl rfl (by kernel_rfl) (fun _ _ _ h => h) (Or.inl ⟨by rfl, ?_⟩) ?_ ?_
                rotate_left
                · intro w'
                  go_simp
                  with_reducible rfl
                rotate_left
                · simp only [Act.put, List.setIfInBounds_toArray, List.set_cons_zero, List.set_cons_succ, i64_w, i32_w]
                  rfl
                refine pure_ (i := 21) (N := some 187) (v := ?_) (a' := ?_) #[true, true, true, true, true, true, true, true, true, true, true, true, true, true, true, true, true, false, false, true, true, true, false, false, false, false, false] rfl rfl (by kernel_rfl) (fun _ _ _ h => h) (Or.inl ⟨by rfl, ?_⟩) ?_ ?_
                rotate_left
                · intro w'
                  go_simp
                  with_reducible rfl
                rotate_left
                · simp only [Act.put, List.setIfInBounds_toArray, List.set_cons_zero, List.set_cons_succ, i64_w, i32_w]
                  rfl
                refine pure_ (i := 22) (N := some 188) (v := ?_) (a' := ?_) #[true, true, true, true, true, true, true, true, true, true, true, true, true, true, true, true, true, false, false, true, true, true, true, false, false, false, false] rfl rfl (by kernel_rfl) (fun _ _ _ h => h) (Or.inl ⟨by rfl, ?_⟩) ?_ ?_
                rotate_left
                · intro w'
                  go_simp
                  with_reducible rfl
                rotate_left
                · simp only [Act.put, List.setIfInBounds_toArray, List.set_cons_zero, List.set_cons_succ, i64_w, i32_w]
                  rfl
                refine take_ (i := 23) (N := some 189) (v := ?_) (a' := ?_) #[true, true, true, true, true, true, true, true, true, true, true, true, true, true, true, true, true, false, false, true, true, true, true, true, false, false, false] rfl rfl (by kernel_rfl) (fun _ _ _ h => h) (Or.inl ⟨by rfl, ?_⟩) hHeld ?_ ?_
                rotate_left
                · rintro w' ⟨s0, s1⟩
                  go_simp
                  with_reducible rfl
                rotate_left
                · simp only [Act.put, List.setIfInBounds_toArray, List.set_cons_zero, List.set_cons_succ, i64_w, i32_w]
                  rfl
                refine pure_ (i := 24) (N := some 190) (v := ?_) (a' := ?_) #[true, true, true, true, true, true, true, true, true, true, true, true, true, true, true, true, true, false, false, true, true, true, true, true, true, false, false] rfl rfl (by kernel_rfl) (fun _ _ _ h => h) (Or.inl ⟨by rfl, ?_⟩) ?_ ?_
                rotate_left
                · intro w'
                  go_simp
                  with_reducible rfl
                rotate_left
                · simp only [Act.put, List.setIfInBounds_toArray, List.set_cons_zero, List.set_cons_succ, i64_w, i32_w]
                  rfl
                refine one_ (i := 17) (N := some 183) #[true, true, true, true, true, true, true, true, true, true, true, true, true, true, true, true, true, true, false, true, true, true, true, true, true, false, false] rfl rfl (by kernel_rfl) (by decide) (fun K hK => ?_)
                refine goes_ Tryd.func46 (by kernel_rfl) rfl #[.pointer (some ⟨d, 0, none⟩)] (by rfl) rfl rfl (by simp only [List.map_toArray, List.map_cons, List.map_nil]; rfl) ?_
                with_reducible refine (HC.out _ (below_alloc HBD.out _)).mono ?_
                rintro e wx ⟨Ak, ck, rfl, hb⟩
                refine ⟨_, rfl, ?_⟩
                have HBX := Lib.hid (below_step (below_alloc HBD.out _) hb)
                have HRX := Lib.hid (Kd.R_below (Kd.R_alloc HRD.out _) hb)
                have cyx := (hb.cell (cell_lt hHeld.2)).trans hHeld.2
                refine hK.out _ _ ⟨str80 (Kd.R_reads' HRX.out).2.2, cyx⟩ (fun hHeld => ?_)
                clear hK K
                refine norm_ (a' := ?_) ?_ ?_
                rotate_left
                · show Act.put _ (some 183) _ = _
                  simp only [Act.put, List.setIfInBounds_toArray, List.set_cons_zero, List.set_cons_succ, i64_w, i32_w]
                  rfl
                refine pure_ (i := 18) (N := some 184) (v := ?_) (a' := ?_) #[true, true, true, true, true, true, true, true, true, true, true, true, true, true, true, true, true, true, true, true, true, true, true, true, true, false, false] rfl rfl (by kernel_rfl) (fun _ _ _ h => h) (Or.inl ⟨by rfl, ?_⟩) ?_ ?_
                rotate_left
                · intro w'
                  go_simp
                  with_reducible rfl
                rotate_left
                · simp only [Act.put, List.setIfInBounds_toArray, List.set_cons_zero, List.set_cons_succ, i64_w, i32_w]
                  rfl
                refine pure_ (i := 25) (N := some 191) (v := ?_) (a' := ?_) #[true, true, true, true, true, true, true, true, true, true, true, true, true, true, true, true, true, true, true, true, true, true, true, true, true, true, false] rfl rfl (by kernel_rfl) (fun _ _ _ h => h) (Or.inl ⟨by rfl, ?_⟩) ?_ ?_
                rotate_left
                · intro w'
                  go_simp
                  with_reducible rfl
                rotate_left
                · simp only [Act.put, List.setIfInBounds_toArray, List.set_cons_zero, List.set_cons_succ, i64_w, i32_w]
                  rfl
                refine pure_ (i := 26) (N := some 192) (v := ?_) (a' := ?_) #[true, true, true, true, true, true, true, true, true, true, true, true, true, true, true, true, true, true, true, true, true, true, true, true, true, true, true] rfl rfl (by kernel_rfl) (fun _ _ _ h => h) (Or.inl ⟨by rfl, ?_⟩) ?_ ?_
                rotate_left
                · intro w'
                  go_simp
                  with_reducible rfl
                rotate_left
                · simp only [Act.put, List.setIfInBounds_toArray, List.set_cons_zero, List.set_cons_succ, i64_w, i32_w]
                  rfl
                refine done_ (by kernel_rfl) ?_
                go_wp2
                go_meet
                case rel => exact ⟨rfl, HBX⟩
              -- ]]
            case rest =>
              obtain ⟨rfl, HBw⟩ := hcut
              have HO6 := Lib.hid (HO5.out.below HBw.out)
              have HXA6 := Lib.hid (show Hn _ _ _ _ from blk_below HXA5.out HBw.out)
              have HYA6 := Lib.hid (show Hn _ _ _ _ from blk_below HYA5.out HBw.out)
              have HY6 := Lib.hid ((HBw.out.block y (blk_lt HY5.out)).trans HY5.out)
              have HZ6 := Lib.hid (HZ5.out.below HBw.out)
              clear HO5 HXA5 HYA5 HY5 HZ5 HR5 HBw
              obtain ⟨Az, cz, hvz⟩ := Kd.R_slice HZ6.out.h0
              rw [hsOf_len] at hvz
              subst hvz
              go_wp2_with (fail)
              go_loopg [28] ma (fun gk v28 wq => ∃ j : Nat, v28 = .int .i64 (j : Int) ∧ j ≤ ma ∧ ma - j ≤ gk ∧ Hid (OC1 w wq d pg M p q (sT sg mb v 97 ma D0) (sT sg2 mb2 v2 98 mb0 D1)) ∧ Hid (Hn wq a 1 1) ∧ Hid (Hn wq b 0 1) ∧ Hid (wq.heap[y]? = some (.cells #[.slice A ma ca, .slice B mb0 cb] 35 (0, 0))) ∧ Hid (SN wq w.heap.size x z (.slice Az ma cz) r1 ma mb0))
              case atStart => exact ⟨0, rfl, by omega, by omega, HO6, HXA6, HYA6, HY6, HZ6⟩
              case round =>
                clear HO6 HXA6 HYA6 HY6 HZ6
                obtain ⟨j, rfl, hj, hjk, HO, HXA, HYA, HY, HZ⟩ := hrel
                have zc := (blk_cell HZ.out.hz 0).trans (show _ = some (Value.slice Az ma cz) from rfl)
                by_cases hjm : j < ma
                · have cj : (j : Int) < (ma : Int) := by omega
                  -- [[ F1
                  as_aux_lemma =>
                    have w164 := w64_1
                    have w064 := w64_0
                    have w1 : IntKind.i64.wrap 1 = 1 := by decide
                    have w0 : IntKind.i64.wrap 0 = 0 := by decide
                    have cj0 : (0 : Int) ≤ (j : Int) := by omega
                    have cj9 : (j : Int) ≤ 100 := by have := HMA.out.1; omega
                    obtain ⟨xy, rfl, hxy, hwf⟩ := HA.out.get j (by have := HMA.out.2.1; omega)
                    obtain ⟨rj, hrj⟩ : ∃ rj, zs.getD j 0 = rj := ⟨_, rfl⟩
                    rw [hrj] at hxy
                    have HXY := Lib.hid hxy
                    have HJM := Lib.hid (And.intro hjm hjk)
                    have HC : Hid (∀ W', Below wr.heap.size wr W' → Calls Tryd.prog 47 #[.pointer (some ⟨d, 0, none⟩), .agg #[.int .i64 0, .int .i64 1], .agg #[.int .i64 (j : Int), .int .i64 1]] W' fun e w' => e = .returned (.tuple #[.int .i64 rj, .nilIface]) ∧ Below W'.heap.size W' w') := Lib.hid (fun W' hb' => (ofind1 (HO.out.below hb') HRA.out HMA.out.2.2.2.symm j HJM.out.1 HMA.out.1).mono (fun e w' ⟨e1, _, b⟩ => ⟨by rw [e1, List.getD_eq_getElem?_getD, List.getElem?_take_of_lt HJM.out.1, ← List.getD_eq_getElem?_getD, hrj], b⟩))
                    obtain ⟨ad, rfl, e0, e1⟩ := row_cell HZ.out.h0 hjm
                    clear hxy hwf hrj hjk
                    have b0 := (blk_cell HYA.out 0).trans (show _ = some (Value.int .i64 0) from rfl)
                    have b1 := (blk_cell HYA.out 1).trans (show _ = some (Value.int .i64 1) from rfl)
                    go_upto_region 34 with (fail)
                    go_cut [29, 30] (fun v29 v30 wd => v29 = .int .i64 rj ∧ v30 = .nilIface ∧ Hid (Below wr.heap.size wr wd))
                    case first =>
                      have HK1 := Lib.hid (Below.refl wr.heap.size wr)
                      go_region_held3 (fun w' => w'.cell? ⟨b, 0, none⟩ = some (.int .i64 0) ∧ w'.cell? ⟨b, 1, none⟩ = some (.int .i64 1) ∧ w'.cell? ⟨z, 0, none⟩ = some (.slice (some ad) ma cz) ∧ w'.cell? (ad.add (j * 2)) = some (.int .i64 (j : Int)) ∧ w'.cell? ⟨(ad.add (j * 2)).block, (ad.add (j * 2)).off + 1, none⟩ = some (.int .i64 1)) (first | go_keep | exact ⟨b0, b1, zc, e0, e1⟩ | exact ⟨(HK1.out.cell (cell_lt b0)).trans b0, (HK1.out.cell (cell_lt b1)).trans b1, (HK1.out.cell (cell_lt zc)).trans zc, (HK1.out.cell (cell_lt e0)).trans e0, (HK1.out.cell (cell_lt e1)).trans e1⟩) ((go_at_call 47; (with_reducible refine (HC.out _ (by first | exact HK1.out | exact below_drew1 HK1.out)).mono ?_); rintro e wx ⟨rfl, hb⟩; first | (have HK1 := Lib.hid (below_step HK1.out hb)) | (have HK1 := Lib.hid (show Below wr.heap.size wr wx from below_step (below_drew1 HK1.out) hb))))
                      all_goals
                        go_wp2
                        go_meet
                        case rel => exact ⟨rfl, rfl, HK1⟩
                    case rest =>
                      obtain ⟨rfl, rfl, HBx⟩ := hcut
                      have HO2 := Lib.hid (HO.out.below HBx.out)
                      have HXA2 := Lib.hid (show Hn _ _ _ _ from blk_below HXA.out HBx.out)
                      have HYA2 := Lib.hid (show Hn _ _ _ _ from blk_below HYA.out HBx.out)
                      have HY2 := Lib.hid ((HBx.out.block y (blk_lt HY.out)).trans HY.out)
                      have HZ2 := Lib.hid (HZ.out.below HBx.out)
                      clear HO HXA HYA HY HZ HBx HC b0 b1 zc e0 e1
                      have cy := (blk_cell HY2.out 0).trans (show _ = some (Value.slice (some xy) ma ca) from rfl)
                      have cx := (HO2.out.bl.cell (cell_lt HXY.out)).trans HXY.out
                      go_wp2_with (fail)
                      go_roundg (ma - (j + 1))
                      case measure => have := HJM.out.1; have := HJM.out.2; omega
                      case rel => exact ⟨j + 1, by simp, by have := HJM.out.1; omega, by omega, HO2, HXA2, HYA2, HY2, HZ2⟩
                  -- ]]
                · obtain rfl : j = ma := by omega
                  -- [[ E1
                  as_aux_lemma =>
                    clear hjm hj hjk HY HYA
                    go_wp2_with (fail)
                    go_at_call 40
                    (with_reducible refine (oopen1 HO.out).mono ?_)
                    rintro e u7 ⟨xs, sg3, mb3, rfl, ho, hk⟩
                    have B7 := below_alloc (Below.refl u7.heap.size u7) (.cells #[.int .i64 1, .int .i64 2] 40)
                    have HO7 := Lib.hid (ho.below B7)
                    have HXA7 := Lib.hid (show Hn _ _ _ _ from blk_below (keeps_hn HXA.out hk) B7)
                    have HN7 := Lib.hid (show Hn (u7.alloc (.cells #[.int .i64 1, .int .i64 2] 40)) u7.heap.size 1 2 from heap_alloc_new u7 _)
                    clear B7 ho hk HO HXA HZ zc
                    go_upto_region 38 with (fail)
                    generalize u7.alloc (.cells #[.int .i64 1, .int .i64 2] 40) = U7 at *
                    generalize u7.heap.size = nb at *
                    have n0 := (blk_cell HN7.out 0).trans (show _ = some (Value.int .i64 1) from rfl)
                    have n1 := (blk_cell HN7.out 1).trans (show _ = some (Value.int .i64 2) from rfl)
                    go_wp2_with (fail)
                    go_at_call 45
                    (with_reducible refine (owaitsnew1 (q := 0) (u := newS 0 0) HO7.out).mono ?_)
                    rintro e u8 ⟨rfl, ho, hb⟩
                    have HO8 := Lib.hid ho
                    have HXA8 := Lib.hid (show Hn _ _ _ _ from blk_below HXA7.out hb)
                    have HN8 := Lib.hid (show Hn _ _ _ _ from blk_below HN7.out hb)
                    clear ho hb HO7 HXA7 HN7 n0 n1
                    have n0 := (blk_cell HN8.out 0).trans (show _ = some (Value.int .i64 1) from rfl)
                    have n1 := (blk_cell HN8.out 1).trans (show _ = some (Value.int .i64 2) from rfl)
                    have a0 := (blk_cell HXA8.out 0).trans (show _ = some (Value.int .i64 1) from rfl)
                    have a1 := (blk_cell HXA8.out 1).trans (show _ = some (Value.int .i64 1) from rfl)
                    go_wp2_with (fail)
                    go_at_call 41
                    (with_reducible refine (osendno1 (q := 0) (u := newS 0 0) HG.out HO8.out).mono ?_)
                    rintro e u9 ⟨k9, rfl, hj, ho, hb⟩
                    have HO9 := Lib.hid ho
                    have HJ9 := Lib.hid hj
                    clear ho hj hb HO8 HXA8 HN8 n0 n1 a0 a1
                    go_wp2_with (fail)
                    go_at_call 14
                    (with_reducible refine (code_join k9 3 _ (good_et' (HO9.out.good HG.out)) HJ9.out).mono ?_)
                    rintro e v9 ⟨rfl, hb⟩
                    have HB9 := Lib.hid (below_step HO9.out.bl hb)
                    clear hb HO9 HJ9
                    go_wp2_with (fail)
                    go_at_call 48
                    (with_reducible refine (awaked_calls _ (HG.out.below HB9.out)).mono ?_)
                    rintro e v10 ⟨rfl, hb⟩
                    have HB10 := Lib.hid (below_step HB9.out hb)
                    clear hb
                    go_wp2
                    go_ret
                    exact ⟨rfl, HB10.out⟩
                  -- ]]
          -- ]]
        · -- f = true
          -- [[ T0
          go_upto_region 23 with (fail)
          have x0 := (blk_cell HX.out 0).trans (show _ = some (Value.int .i64 0) from rfl)
          have x1 := (blk_cell HX.out 1).trans (show _ = some (Value.int .i64 1) from rfl)
          have x2 := (blk_cell HX.out 2).trans (show _ = some (Value.int .i64 1) from rfl)
          have x3 := (blk_cell HX.out 3).trans (show _ = some (Value.int .i64 1) from rfl)
          go_wp2_with (fail)
          go_at_call 43
          (with_reducible refine (oclose0 HO.out HRA.out (by have := HMA.out.2.2.2; have := HMA.out.1; omega)).mono ?_)
          rintro e u1 ⟨vr, rfl, hr, ho, hk⟩
          obtain ⟨Ar, cr, rfl⟩ := Kd.R_slice hr
          rw [HMA.out.2.2.2]
          have HO1 := Lib.hid (show OC0 w u1 d pg M p q (sT sg mb v 97 ma D0) (sT sg2 mb2 v2 98 mb0 D1) from ho)
          have HX1 := Lib.hid ((hk.2 x _ _ _ HX.out (by decide)).trans HX.out)
          have HY1 := Lib.hid ((hk.2 y _ _ _ HY.out (by decide)).trans HY.out)
          have HZ1 := Lib.hid (HZ.out.keeps hk)
          have HR1 := Lib.hid hr
          clear hr ho hk HO HX HY HZ HRA x0 x1 x2 x3
          have y0 := (blk_cell HY1.out 0).trans (show _ = some (Value.slice A ma ca) from rfl)
          have y1 := (blk_cell HY1.out 1).trans (show _ = some (Value.slice B mb0 cb) from rfl)
          go_upto_region 26 with (go_at_call 44; (with_reducible refine (osame (xs := zs.take ma) HMA.out.2.2.2 (by have := (Kd.R_reads' HR1.out).2.2; rwa [HMA.out.2.2.2] at this) ((HA.out.below HO1.out.bl).C HMA.out.2.1 HMA.out.2.2.2) HMA.out.1).mono ?_); rintro e u2 ⟨rfl, hb⟩; have HO2 := Lib.hid (HO1.out.below hb); have HX2 := Lib.hid ((hb.block x (blk_lt HX1.out)).trans HX1.out); have HY2 := Lib.hid ((hb.block y (blk_lt HY1.out)).trans HY1.out); have HZ2 := Lib.hid (HZ1.out.below hb); clear hb)
          clear HO1 HX1 HY1 HZ1 HR1 y0 y1
          have x0 := (blk_cell HX2.out 0).trans (show _ = some (Value.int .i64 0) from rfl)
          have x1 := (blk_cell HX2.out 1).trans (show _ = some (Value.int .i64 1) from rfl)
          have x2 := (blk_cell HX2.out 2).trans (show _ = some (Value.int .i64 1) from rfl)
          have x3 := (blk_cell HX2.out 3).trans (show _ = some (Value.int .i64 1) from rfl)
          go_cut [22, 23] (fun v22 v23 wd => ∃ a b, v22 = .pointer (some ⟨a, 0, none⟩) ∧ v23 = .pointer (some ⟨b, 0, none⟩) ∧ Hid (Hn wd a 0 1) ∧ Hid (Hn wd b 1 1) ∧ Hid (Below u2.heap.size u2 wd))
          case first =>
            -- [[ R260
            as_aux_lemma =>
              have w164 := w64_1
              have w064 := w64_0
              have w1 : IntKind.i64.wrap 1 = 1 := by decide
              have w0 : IntKind.i64.wrap 0 = 0 := by decide
              go_region_held3 (fun w' => w'.cell? ⟨x, 0, none⟩ = some (.int .i64 0) ∧ w'.cell? ⟨x, 1, none⟩ = some (.int .i64 1) ∧ w'.cell? ⟨x, 2, none⟩ = some (.int .i64 1) ∧ w'.cell? ⟨x, 3, none⟩ = some (.int .i64 1)) (first | go_keep | exact ⟨x0, x1, x2, x3⟩) (fail)
              all_goals
                go_wp2
                go_meet
                case rel => first
                  | exact ⟨_, _, rfl, rfl, Lib.hid (pair2 _ _ _).2.1, Lib.hid (pair2 _ _ _).2.2, Lib.hid (pair2 _ _ _).1⟩
                  | exact ⟨_, _, rfl, rfl, Lib.hid (pair2 _ _ _).2.2, Lib.hid (pair2 _ _ _).2.1, Lib.hid (pair2 _ _ _).1⟩
            -- ]]
          case rest =>
            obtain ⟨a, b, rfl, rfl, HXA, HYA, HBd⟩ := hcut
            have HO3 := Lib.hid (HO2.out.below HBd.out)
            have HY3 := Lib.hid ((HBd.out.block y (blk_lt HY2.out)).trans HY2.out)
            have HZ3 := Lib.hid (HZ2.out.below HBd.out)
            clear HO2 HX2 HY2 HZ2 HBd x0 x1 x2 x3
            have q0 := (blk_cell HYA.out 0).trans (show _ = some (Value.int .i64 1) from rfl)
            have q1 := (blk_cell HYA.out 1).trans (show _ = some (Value.int .i64 1) from rfl)
            go_wp2_with (fail)
            go_at_call 45
            (with_reducible refine (owaits0 HO3.out).mono ?_)
            rintro e u4 ⟨vw, rfl, hr, ho, hb⟩
            obtain ⟨Aw, cw, rfl⟩ := Kd.R_slice hr
            have HO4 := Lib.hid ho
            have HR4 := Lib.hid hr
            have HXA4 := Lib.hid (show Hn _ _ _ _ from blk_below HXA.out hb)
            have HYA4 := Lib.hid (show Hn _ _ _ _ from blk_below HYA.out hb)
            have HY4 := Lib.hid ((hb.block y (blk_lt HY3.out)).trans HY3.out)
            have HZ4 := Lib.hid (HZ3.out.below hb)
            clear hr ho hb HO3 HXA HYA HY3 HZ3 q0 q1
            have q0 := (blk_cell HXA4.out 0).trans (show _ = some (Value.int .i64 0) from rfl)
            have q1 := (blk_cell HXA4.out 1).trans (show _ = some (Value.int .i64 1) from rfl)
            go_wp2_with (fail)
            go_at_call 45
            (with_reducible refine (owaitsno0 HG.out HO4.out).mono ?_)
            rintro e u5 ⟨rfl, ho, hb⟩
            have HO5 := Lib.hid ho
            have HR5 := Lib.hid (Kd.R_below HR4.out hb)
            have HXA5 := Lib.hid (show Hn _ _ _ _ from blk_below HXA4.out hb)
            have HYA5 := Lib.hid (show Hn _ _ _ _ from blk_below HYA4.out hb)
            have HY5 := Lib.hid ((hb.block y (blk_lt HY4.out)).trans HY4.out)
            have HZ5 := Lib.hid (HZ4.out.below hb)
            clear ho hb HO4 HR4 HXA4 HYA4 HY4 HZ4 q0 q1
            go_upto_region 29 with (fail)
            go_cut [192] (fun v192 wd => v192 = .bool false ∧ Hid (Below u5.heap.size u5 wd))
            case first =>
              -- [[ R290
              as_aux_lemma =>
                have HC : Hid (∀ W', Below u5.heap.size u5 W' → Calls Tryd.prog 46 #[.pointer (some ⟨d, 0, none⟩)] W' fun e w' => ∃ A c, e = .returned (.slice A mb0 c) ∧ Below W'.heap.size W' w') := Lib.hid (fun W' hb' => (okept0 (HO5.out.below hb') HRB.out (by have := HMB.out.2.2.2; have := HMB.out.1; omega)).mono (fun e w' ⟨A, c, e1, _, b⟩ => ⟨A, c, by rw [e1, HMB.out.2.2.2], b⟩))
                have cy := (blk_cell HY5.out 1).trans (show _ = some (Value.slice B mb0 cb) from rfl)
                have HRD := Lib.hid (Kd.R_drew HR5.out)
                have HBD := Lib.hid (below_drew1 (Below.refl u5.heap.size u5))
                have s0 : (convert 80 9 (.slice Aw 1 cw)).run Tryd.prog u5.drew = .ok (.string { data := #[98] }) u5.drew := str80 (Kd.R_reads' HRD.out).2.2
                have cyd : u5.drew.cell? ⟨y, 1, none⟩ = some (Value.slice B mb0 cb) := cy
                clear cy
                have w1 : IntKind.i64.wrap 1 = 1 := by decide
                have w0 : IntKind.i64.wrap 0 = 0 := by decide
                have w164 := w64_1
                have w064 := w64_0
                refine start_ (n := 27) (S := fun w' => (convert 80 9 (.slice Aw 1 cw)).run Tryd.prog w' = .ok (.string { data := #[98] }) w' ∧ w'.cell? ⟨y, 1, none⟩ = some (.slice B mb0 cb)) (ds := []) #[false, false, false, false, false, false, false, false, false, false, false, false, false, false, false, false, false, false, false, false, false, false, false, false, false, false, false] (by kernel_rfl) rfl rfl ⟨s0, cyd⟩ (fun hHeld => ?_)
                generalize u5.drew = wd at *
                refine pure_ (i := 0) (N := some 166) (v := ?_) (a' := ?_) #[true, false, false, false, false, false, false, false, false, false, false, false, false, false, false, false, false, false, false, false, false, false, false, false, false, false, false] rfl rfl (by kernel_rfl) (fun _ _ _ h => h) (Or.inl ⟨by rfl, ?_⟩) ?_ ?_
                rotate_left
                · intro w'
                  go_simp
                  with_reducible rfl
                rotate_left
                · simp only [Act.put, List.setIfInBounds_toArray, List.set_cons_zero, List.set_cons_succ, i64_w, i32_w]
                  rfl
                refine pure_ (i := 1) (N := some 167) (v := ?_) (a' := ?_) #[true, true, false, false, false, false, false, false, false, false, false, false, false, false, false, false, false, false, false, false, false, false, false, false, false, false, false] rfl rfl (by kernel_rfl) (fun _ _ _ h => h) (Or.inl ⟨by rfl, ?_⟩) ?_ ?_
                rotate_left
                · intro w'
                  go_simp
                  with_reducible rfl
                rotate_left
                · simp only [Act.put, List.setIfInBounds_toArray, List.set_cons_zero, List.set_cons_succ, i64_w, i32_w]
                  rfl
                refine pure_ (i := 2) (N := some 168) (v := ?_) (a' := ?_) #[true, true, true, false, false, false, false, false, false, false, false, false, false, false, false, false, false, false, false, false, false, false, false, false, false, false, false] rfl rfl (by kernel_rfl) (fun _ _ _ h => h) (Or.inl ⟨by rfl, ?_⟩) ?_ ?_
                rotate_left
                · intro w'
                  go_simp
                  with_reducible rfl
                rotate_left
                · simp only [Act.put, List.setIfInBounds_toArray, List.set_cons_zero, List.set_cons_succ, i64_w, i32_w]
                  rfl
                refine pure_ (i := 3) (N := some 169) (v := ?_) (a' := ?_) #[true, true, true, true, false, false, false, false, false, false, false, false, false, false, false, false, false, false, false, false, false, false, false, false, false, false, false] rfl rfl (by kernel_rfl) (fun _ _ _ h => h) (Or.inl ⟨by rfl, ?_⟩) ?_ ?_
                rotate_left
                · intro w'
                  go_simp
                  with_reducible rfl
                rotate_left
                · simp only [Act.put, List.setIfInBounds_toArray, List.set_cons_zero, List.set_cons_succ, i64_w, i32_w]
                  rfl
                refine pure_ (i := 6) (N := some 172) (v := ?_) (a' := ?_) #[true, true, true, true, false, false, true, false, false, false, false, false, false, false, false, false, false, false, false, false, false, false, false, false, false, false, false] rfl rfl (by kernel_rfl) (fun _ _ _ h => h) (Or.inl ⟨by rfl, ?_⟩) ?_ ?_
                rotate_left
                · intro w'
                  go_simp
                  with_reducible rfl
                rotate_left
                · simp only [Act.put, List.setIfInBounds_toArray, List.set_cons_zero, List.set_cons_succ, i64_w, i32_w]
                  rfl
                refine pure_ (i := 7) (N := some 173) (v := ?_) (a' := ?_) #[true, true, true, true, false, false, true, true, false, false, false, false, false, false, false, false, false, false, false, false, false, false, false, false, false, false, false] rfl rfl (by kernel_rfl) (fun _ _ _ h => h) (Or.inl ⟨by rfl, ?_⟩) ?_ ?_
                rotate_left
                · intro w'
                  go_simp
                  with_reducible rfl
                rotate_left
                · simp only [Act.put, List.setIfInBounds_toArray, List.set_cons_zero, List.set_cons_succ, i64_w, i32_w]
                  rfl
                refine take_ (i := 4) (N := some 170) (v := ?_) (a' := ?_) #[true, true, true, true, true, false, true, true, false, false, false, false, false, false, false, false, false, false, false, false, false, false, false, false, false, false, false] rfl rfl (by kernel_rfl) (fun _ _ _ h => h) (Or.inl ⟨by rfl, ?_⟩) hHeld ?_ ?_
                rotate_left
                · rintro w' ⟨s0, s1⟩
                  go_simp
                  with_reducible rfl
                rotate_left
                · simp only [Act.put, List.setIfInBounds_toArray, List.set_cons_zero, List.set_cons_succ, i64_w, i32_w]
                  rfl
                refine one_ (i := 5) (N := some 171) #[true, true, true, true, true, true, true, true, false, false, false, false, false, false, false, false, false, false, false, false, false, false, false, false, false, false, false] rfl rfl (by kernel_rfl) (by decide) (fun K hK => ?_)
                refine value_ (w1 := ?_) (v := ?_) (by rfl) rfl ?_ ?_
                rotate_left 2
                · go_simp
                  constructor
                  · rfl
                  · rfl
                refine hK.out _ _ ⟨str80 (Kd.R_reads' (Kd.R_alloc HRD.out _)).2.2, ((below_alloc (Below.refl wd.heap.size wd) _).cell (cell_lt cyd)).trans cyd⟩ (fun hHeld => ?_)
                clear hK K
                refine norm_ (a' := ?_) ?_ ?_
                rotate_left
                · show Act.put _ (some 171) _ = _
                  simp only [Act.put, List.setIfInBounds_toArray, List.set_cons_zero, List.set_cons_succ, i64_w, i32_w]
                  rfl
                refine pure_ (i := 8) (N := some 174) (v := ?_) (a' := ?_) #[true, true, true, true, true, true, true, true, true, false, false, false, false, false, false, false, false, false, false, false, false, false, false, false, false, false, false] rfl rfl (by kernel_rfl) (fun _ _ _ h => h) (Or.inl ⟨by rfl, ?_⟩) ?_ ?_
                rotate_left
                · intro w'
                  go_simp
                  with_reducible rfl
                rotate_left
                · simp only [Act.put, List.setIfInBounds_toArray, List.set_cons_zero, List.set_cons_succ, i64_w, i32_w]
                  rfl
                refine one_ (i := 9) (N := some 175) #[true, true, true, true, true, true, true, true, true, true, false, false, false, false, false, false, false, false, false, false, false, false, false, false, false, false, false] rfl rfl (by kernel_rfl) (by decide) (fun K hK => ?_)
                refine value_ (w1 := ?_) (v := ?_) (by rfl) rfl ?_ ?_
                rotate_left 2
                · go_simp
                  constructor
                  · rfl
                  · rfl
                refine hK.out _ _ ⟨hHeld.1, hHeld.2⟩ (fun hHeld => ?_)
                clear hK K
                refine norm_ (a' := ?_) ?_ ?_
                rotate_left
                · show Act.put _ (some 175) _ = _
                  simp only [Act.put, List.setIfInBounds_toArray, List.set_cons_zero, List.set_cons_succ, i64_w, i32_w]
                  rfl
                refine pure_ (i := 10) (N := some 176) (v := ?_) (a' := ?_) #[true, true, true, true, true, true, true, true, true, true, true, false, false, false, false, false, false, false, false, false, false, false, false, false, false, false, false] rfl rfl (by kernel_rfl) (fun _ _ _ h => h) (Or.inl ⟨by rfl, ?_⟩) ?_ ?_
                rotate_left
                · intro w'
                  go_simp
                  with_reducible rfl
                rotate_left
                · simp only [Act.put, List.setIfInBounds_toArray, List.set_cons_zero, List.set_cons_succ, i64_w, i32_w]
                  rfl
                refine pure_ (i := 11) (N := some 177) (v := ?_) (a' := ?_) #[true, true, true, true, true, true, true, true, true, true, true, true, false, false, false, false, false, false, false, false, false, false, false, false, false, false, false] rfl rfl (by kernel_rfl) (fun _ _ _ h => h) (Or.inl ⟨by rfl, ?_⟩) ?_ ?_
                rotate_left
                · intro w'
                  go_simp
                  with_reducible rfl
                rotate_left
                · simp only [Act.put, List.setIfInBounds_toArray, List.set_cons_zero, List.set_cons_succ, i64_w, i32_w]
                  rfl
                refine pure_ (i := 12) (N := some 178) (v := ?_) (a' := ?_) #[true, true, true, true, true, true, true, true, true, true, true, true, true, false, false, false, false, false, false, false, false, false, false, false, false, false, false] rfl rfl (by kernel_rfl) (fun _ _ _ h => h) (Or.inl ⟨by rfl, ?_⟩) ?_ ?_
                rotate_left
                · intro w'
                  go_simp
                  with_reducible rfl
                rotate_left
                · simp only [Act.put, List.setIfInBounds_toArray, List.set_cons_zero, List.set_cons_succ, i64_w, i32_w]
                  rfl
                refine pure_ (i := 13) (N := some 179) (v := ?_) (a' := ?_) #[true, true, true, true, true, true, true, true, true, true, true, true, true, true, false, false, false, false, false, false, false, false, false, false, false, false, false] rfl rfl (by kernel_rfl) (fun _ _ _ h => h) (Or.inl ⟨by rfl, ?_⟩) ?_ ?_
                rotate_left
                · intro w'
                  go_simp
                  with_reducible rfl
                rotate_left
                · simp only [Act.put, List.setIfInBounds_toArray, List.set_cons_zero, List.set_cons_succ, i64_w, i32_w]
                  rfl
                refine pure_ (i := 14) (N := some 180) (v := ?_) (a' := ?_) #[true, true, true, true, true, true, true, true, true, true, true, true, true, true, true, false, false, false, false, false, false, false, false, false, false, false, false] rfl rfl (by kernel_rfl) (fun _ _ _ h => h) (Or.inl ⟨by rfl, ?_⟩) ?_ ?_
                rotate_left
                · intro w'
                  go_simp
                  with_reducible rfl
                rotate_left
                · simp only [Act.put, List.setIfInBounds_toArray, List.set_cons_zero, List.set_cons_succ, i64_w, i32_w]
                  rfl
                refine pure_ (i := 15) (N := some 181) (v := ?_) (a' := ?_) #[true, true, true, true, true, true, true, true, true, true, true, true, true, true, true, true, false, false, false, false, false, false, false, false, false, false, false] rfl rfl (by kernel_rfl) (fun _ _ _ h => h) (Or.inl ⟨by rfl, ?_⟩) ?_ ?_
                rotate_left
                · intro w'
                  go_simp
                  with_reducible rfl
                rotate_left
                · simp only [Act.put, List.setIfInBounds_toArray, List.set_cons_zero, List.set_cons_succ, i64_w, i32_w]
                  rfl
                refine pure_ (i := 16) (N := some 182) (v := ?_) (a' := ?_) #[true, true, true, true, true, true, true, true, true, true, true, true, true, true, true, true, true, false, false, false, false, false, false, false, false, false, false] rfl rfl (by kernel_rfl) (fun _ _ _ h => h) (Or.inl ⟨by rfl, ?_⟩) ?_ ?_
                rotate_left
                · intro w'
                  go_simp
                  with_reducible rfl
                rotate_left
                · simp only [Act.put, List.setIfInBounds_toArray, List.set_cons_zero, List.set_cons_succ, i64_w, i32_w]
                  rfl
                refine pure_ (i := 19) (N := some 185) (v := ?_) (a' := ?_) #[true, true, true, true, true, true, true, true, true, true, true, true, true, true, true, true, true, false, false, true, false, false, false, false, false, false, false] rfl rfl (by kernel_rfl) (fun _ _ _ h => h) (Or.inl ⟨by rfl, ?_⟩) ?_ ?_
                rotate_left
                · intro w'
                  go_simp
                  with_reducible rfl
                rotate_left
                · simp only [Act.put, List.setIfInBounds_toArray, List.set_cons_zero, List.set_cons_succ, i64_w, i32_w]
                  rfl
                refine pure_ (i := 20) (N := some 186) (v := ?_) (a' := ?_) #[true, true, true, true, true, true, true, true, true, true, true, true, true, true, true, true, true, false, false, true, true, false, false, false, false, false, false] rfl rfl (by kernel_rfl) (fun _ _ _ h => h) (Or.inl ⟨by rfl, ?_⟩) ?_ ?_
                rotate_left
                · intro w'
                  go_simp
                  with_reducible rfl
                rotate_left
                · simp only [Act.put, List.setIfInBounds_toArray, List.set_cons_zero, List.set_cons_succ, i64_w, i32_w]
                  rfl
                refine pure_ (i := 21) (N := some 187) (v := ?_) (a' := ?_) #[true, true, true, true, true, true, true, true, true, true, true, true, true, true, true, true, true, false, false, true, true, true, false, false, false, false, false] rfl rfl (by kernel_rfl) (fun _ _ _ h => h) (Or.inl ⟨by rfl, ?_⟩) ?_ ?_
                rotate_left
                · intro w'
                  go_simp
                  with_reducible rfl
                rotate_left
                · simp only [Act.put, List.setIfInBounds_toArray, List.set_cons_zero, List.set_cons_succ, i64_w, i32_w]
                  rfl
                refine pure_ (i := 22) (N := some 188) (v := ?_) (a' := ?_) #[true, true, true, true, true, true, true, true, true, true, true, true, true, true, true, true, true, false, false, true, true, true, true, false, false, false, false] rfl rfl (by kernel_rfl) (fun _ _ _ h => h) (Or.inl ⟨by rfl, ?_⟩) ?_ ?_
                rotate_left
                · intro w'
                  go_simp
                  with_reducible rfl
                rotate_left
                · simp only [Act.put, List.setIfInBounds_toArray, List.set_cons_zero, List.set_cons_succ, i64_w, i32_w]
                  rfl
                refine take_ (i := 23) (N := some 189) (v := ?_) (a' := ?_) #[true, true, true, true, true, true, true, true, true, true, true, true, true, true, true, true, true, false, false, true, true, true, true, true, false, false, false] rfl rfl (by kernel_rfl) (fun _ _ _ h => h) (Or.inl ⟨by rfl, ?_⟩) hHeld ?_ ?_
                rotate_left
                · rintro w' ⟨s0, s1⟩
                  go_simp
                  with_reducible rfl
                rotate_left
                · simp only [Act.put, List.setIfInBounds_toArray, List.set_cons_zero, List.set_cons_succ, i64_w, i32_w]
                  rfl
                refine pure_ (i := 24) (N := some 190) (v := ?_) (a' := ?_) #[true, true, true, true, true, true, true, true, true, true, true, true, true, true, true, true, true, false, false, true, true, true, true, true, true, false, false] rfl rfl (by kernel_rfl) (fun _ _ _ h => h) (Or.inl ⟨by rfl, ?_⟩) ?_ ?_
                rotate_left
                · intro w'
                  go_simp
                  with_reducible rfl
                rotate_left
                · simp only [Act.put, List.setIfInBounds_toArray, List.set_cons_zero, List.set_cons_succ, i64_w, i32_w]
                  rfl
                refine one_ (i := 17) (N := some 183) #[true, true, true, true, true, true, true, true, true, true, true, true, true, true, true, true, true, true, false, true, true, true, true, true, true, false, false] rfl rfl (by kernel_rfl) (by decide) (fun K hK => ?_)
                refine goes_ Tryd.func46 (by kernel_rfl) rfl #[.pointer (some ⟨d, 0, none⟩)] (by rfl) rfl rfl (by simp only [List.map_toArray, List.map_cons, List.map_nil]; rfl) ?_
                with_reducible refine (HC.out _ (below_alloc HBD.out _)).mono ?_
                rintro e wx ⟨Ak, ck, rfl, hb⟩
                refine ⟨_, rfl, ?_⟩
                have HBX := Lib.hid (below_step (below_alloc HBD.out _) hb)
                have HRX := Lib.hid (Kd.R_below (Kd.R_alloc HRD.out _) hb)
                have cyx := (hb.cell (cell_lt hHeld.2)).trans hHeld.2
                refine hK.out _ _ ⟨str80 (Kd.R_reads' HRX.out).2.2, cyx⟩ (fun hHeld => ?_)
                clear hK K
                refine norm_ (a' := ?_) ?_ ?_
                rotate_left
                · show Act.put _ (some 183) _ = _
                  simp only [Act.put, List.setIfInBounds_toArray, List.set_cons_zero, List.set_cons_succ, i64_w, i32_w]
                  rfl
                refine pure_ (i := 18) (N := some 184) (v := ?_) (a' := ?_) #[true, true, true, true, true, true, true, true, true, true, true, true, true, true, true, true, true, true, true, true, true, true, true, true, true, false, false] rfl rfl (by kernel_rfl) (fun _ _ _ h => h) (Or.inl ⟨by rfl, ?_⟩) ?_ ?_
                rotate_left
                · intro w'
                  go_simp
                  with_reducible rfl
                rotate_left
                · simp only [Act.put, List.setIfInBounds_toArray, List.set_cons_zero, List.set_cons_succ, i64_w, i32_w]
                  rfl
                refine pure_ (i := 25) (N := some 191) (v := ?_) (a' := ?_) #[true, true, true, true, true, true, true, true, true, true, true, true, true, true, true, true, true, true, true, true, true, true, true, true, true, true, false] rfl rfl (by kernel_rfl) (fun _ _ _ h => h) (Or.inl ⟨by rfl, ?_⟩) ?_ ?_
                rotate_left
                · intro w'
                  go_simp
                  with_reducible rfl
                rotate_left
                · simp only [Act.put, List.setIfInBounds_toArray, List.set_cons_zero, List.set_cons_succ, i64_w, i32_w]
                  rfl
                refine pure_ (i := 26) (N := some 192) (v := ?_) (a' := ?_) #[true, true, true, true, true, true, true, true, true, true, true, true, true, true, true, true, true, true, true, true, true, true, true, true, true, true, true] rfl rfl (by kernel_rfl) (fun _ _ _ h => h) (Or.inl ⟨by rfl, ?_⟩) ?_ ?_
                rotate_left
                · intro w'
                  go_simp
                  with_reducible rfl
                rotate_left
                · simp only [Act.put, List.setIfInBounds_toArray, List.set_cons_zero, List.set_cons_succ, i64_w, i32_w]
                  rfl
                refine done_ (by kernel_rfl) ?_
                go_wp2
                go_meet
                case rel => exact ⟨rfl, HBX⟩
              -- ]]
            case rest =>
              obtain ⟨rfl, HBw⟩ := hcut
              have HO6 := Lib.hid (HO5.out.below HBw.out)
              have HXA6 := Lib.hid (show Hn _ _ _ _ from blk_below HXA5.out HBw.out)
              have HYA6 := Lib.hid (show Hn _ _ _ _ from blk_below HYA5.out HBw.out)
              have HY6 := Lib.hid ((HBw.out.block y (blk_lt HY5.out)).trans HY5.out)
              have HZ6 := Lib.hid (HZ5.out.below HBw.out)
              clear HO5 HXA5 HYA5 HY5 HZ5 HR5 HBw
              obtain ⟨Az, cz, hvz⟩ := Kd.R_slice HZ6.out.h1
              rw [hsOf_len] at hvz
              subst hvz
              go_wp2_with (fail)
              go_loopg [28] mb0 (fun gk v28 wq => ∃ j : Nat, v28 = .int .i64 (j : Int) ∧ j ≤ mb0 ∧ mb0 - j ≤ gk ∧ Hid (OC0 w wq d pg M p q (sT sg mb v 97 ma D0) (sT sg2 mb2 v2 98 mb0 D1)) ∧ Hid (Hn wq a 0 1) ∧ Hid (Hn wq b 1 1) ∧ Hid (wq.heap[y]? = some (.cells #[.slice A ma ca, .slice B mb0 cb] 35 (0, 0))) ∧ Hid (SN wq w.heap.size x z r0 (.slice Az mb0 cz) ma mb0))
              case atStart => exact ⟨0, rfl, by omega, by omega, HO6, HXA6, HYA6, HY6, HZ6⟩
              case round =>
                clear HO6 HXA6 HYA6 HY6 HZ6
                obtain ⟨j, rfl, hj, hjk, HO, HXA, HYA, HY, HZ⟩ := hrel
                have zc := (blk_cell HZ.out.hz 1).trans (show _ = some (Value.slice Az mb0 cz) from rfl)
                by_cases hjm : j < mb0
                · have cj : (j : Int) < (mb0 : Int) := by omega
                  -- [[ F0
                  as_aux_lemma =>
                    have w164 := w64_1
                    have w064 := w64_0
                    have w1 : IntKind.i64.wrap 1 = 1 := by decide
                    have w0 : IntKind.i64.wrap 0 = 0 := by decide
                    have cj0 : (0 : Int) ≤ (j : Int) := by omega
                    have cj9 : (j : Int) ≤ 100 := by have := HMB.out.1; omega
                    obtain ⟨xy, rfl, hxy, hwf⟩ := HB.out.get j (by have := HMB.out.2.1; omega)
                    obtain ⟨rj, hrj⟩ : ∃ rj, ys.getD j 0 = rj := ⟨_, rfl⟩
                    rw [hrj] at hxy
                    have HXY := Lib.hid hxy
                    have HJM := Lib.hid (And.intro hjm hjk)
                    have HC : Hid (∀ W', Below wr.heap.size wr W' → Calls Tryd.prog 47 #[.pointer (some ⟨d, 0, none⟩), .agg #[.int .i64 1, .int .i64 1], .agg #[.int .i64 (j : Int), .int .i64 1]] W' fun e w' => e = .returned (.tuple #[.int .i64 rj, .nilIface]) ∧ Below W'.heap.size W' w') := Lib.hid (fun W' hb' => (ofind0 (HO.out.below hb') HRB.out HMB.out.2.2.2.symm j HJM.out.1 HMB.out.1).mono (fun e w' ⟨e1, _, b⟩ => ⟨by rw [e1, List.getD_eq_getElem?_getD, List.getElem?_take_of_lt HJM.out.1, ← List.getD_eq_getElem?_getD, hrj], b⟩))
                    obtain ⟨ad, rfl, e0, e1⟩ := row_cell HZ.out.h1 hjm
                    clear hxy hwf hrj hjk
                    have b0 := (blk_cell HYA.out 0).trans (show _ = some (Value.int .i64 1) from rfl)
                    have b1 := (blk_cell HYA.out 1).trans (show _ = some (Value.int .i64 1) from rfl)
                    go_upto_region 34 with (fail)
                    go_cut [29, 30] (fun v29 v30 wd => v29 = .int .i64 rj ∧ v30 = .nilIface ∧ Hid (Below wr.heap.size wr wd))
                    case first =>
                      have HK1 := Lib.hid (Below.refl wr.heap.size wr)
                      go_region_held3 (fun w' => w'.cell? ⟨b, 0, none⟩ = some (.int .i64 1) ∧ w'.cell? ⟨b, 1, none⟩ = some (.int .i64 1) ∧ w'.cell? ⟨z, 1, none⟩ = some (.slice (some ad) mb0 cz) ∧ w'.cell? (ad.add (j * 2)) = some (.int .i64 (j : Int)) ∧ w'.cell? ⟨(ad.add (j * 2)).block, (ad.add (j * 2)).off + 1, none⟩ = some (.int .i64 1)) (first | go_keep | exact ⟨b0, b1, zc, e0, e1⟩ | exact ⟨(HK1.out.cell (cell_lt b0)).trans b0, (HK1.out.cell (cell_lt b1)).trans b1, (HK1.out.cell (cell_lt zc)).trans zc, (HK1.out.cell (cell_lt e0)).trans e0, (HK1.out.cell (cell_lt e1)).trans e1⟩) ((go_at_call 47; (with_reducible refine (HC.out _ (by first | exact HK1.out | exact below_drew1 HK1.out)).mono ?_); rintro e wx ⟨rfl, hb⟩; first | (have HK1 := Lib.hid (below_step HK1.out hb)) | (have HK1 := Lib.hid (show Below wr.heap.size wr wx from below_step (below_drew1 HK1.out) hb))))
                      all_goals
                        go_wp2
                        go_meet
                        case rel => exact ⟨rfl, rfl, HK1⟩
                    case rest =>
                      obtain ⟨rfl, rfl, HBx⟩ := hcut
                      have HO2 := Lib.hid (HO.out.below HBx.out)
                      have HXA2 := Lib.hid (show Hn _ _ _ _ from blk_below HXA.out HBx.out)
                      have HYA2 := Lib.hid (show Hn _ _ _ _ from blk_below HYA.out HBx.out)
                      have HY2 := Lib.hid ((HBx.out.block y (blk_lt HY.out)).trans HY.out)
                      have HZ2 := Lib.hid (HZ.out.below HBx.out)
                      clear HO HXA HYA HY HZ HBx HC b0 b1 zc e0 e1
                      have cy := (blk_cell HY2.out 1).trans (show _ = some (Value.slice (some xy) mb0 cb) from rfl)
                      have cx := (HO2.out.bl.cell (cell_lt HXY.out)).trans HXY.out
                      go_wp2_with (fail)
                      go_roundg (mb0 - (j + 1))
                      case measure => have := HJM.out.1; have := HJM.out.2; omega
                      case rel => exact ⟨j + 1, by simp, by have := HJM.out.1; omega, by omega, HO2, HXA2, HYA2, HY2, HZ2⟩
                  -- ]]
                · obtain rfl : j = mb0 := by omega
                  -- [[ E0
                  as_aux_lemma =>
                    clear hjm hj hjk HY HYA
                    go_wp2_with (fail)
                    go_at_call 40
                    (with_reducible refine (oopen0 HO.out).mono ?_)
                    rintro e u7 ⟨xs, sg3, mb3, rfl, ho, hk⟩
                    have B7 := below_alloc (Below.refl u7.heap.size u7) (.cells #[.int .i64 0, .int .i64 2] 40)
                    have HO7 := Lib.hid (ho.below B7)
                    have HXA7 := Lib.hid (show Hn _ _ _ _ from blk_below (keeps_hn HXA.out hk) B7)
                    have HN7 := Lib.hid (show Hn (u7.alloc (.cells #[.int .i64 0, .int .i64 2] 40)) u7.heap.size 0 2 from heap_alloc_new u7 _)
                    clear B7 ho hk HO HXA HZ zc
                    go_upto_region 38 with (fail)
                    generalize u7.alloc (.cells #[.int .i64 0, .int .i64 2] 40) = U7 at *
                    generalize u7.heap.size = nb at *
                    have n0 := (blk_cell HN7.out 0).trans (show _ = some (Value.int .i64 0) from rfl)
                    have n1 := (blk_cell HN7.out 1).trans (show _ = some (Value.int .i64 2) from rfl)
                    go_wp2_with (fail)
                    go_at_call 45
                    (with_reducible refine (owaitsnew0 (p := 0) (s := newS 0 0) HO7.out).mono ?_)
                    rintro e u8 ⟨rfl, ho, hb⟩
                    have HO8 := Lib.hid ho
                    have HXA8 := Lib.hid (show Hn _ _ _ _ from blk_below HXA7.out hb)
                    have HN8 := Lib.hid (show Hn _ _ _ _ from blk_below HN7.out hb)
                    clear ho hb HO7 HXA7 HN7 n0 n1
                    have n0 := (blk_cell HN8.out 0).trans (show _ = some (Value.int .i64 0) from rfl)
                    have n1 := (blk_cell HN8.out 1).trans (show _ = some (Value.int .i64 2) from rfl)
                    have a0 := (blk_cell HXA8.out 0).trans (show _ = some (Value.int .i64 0) from rfl)
                    have a1 := (blk_cell HXA8.out 1).trans (show _ = some (Value.int .i64 1) from rfl)
                    go_wp2_with (fail)
                    go_at_call 41
                    (with_reducible refine (osendno0 (p := 0) (s := newS 0 0) HG.out HO8.out).mono ?_)
                    rintro e u9 ⟨k9, rfl, hj, ho, hb⟩
                    have HO9 := Lib.hid ho
                    have HJ9 := Lib.hid hj
                    clear ho hj hb HO8 HXA8 HN8 n0 n1 a0 a1
                    go_wp2_with (fail)
                    go_at_call 14
                    (with_reducible refine (code_join k9 3 _ (good_et' (HO9.out.good HG.out)) HJ9.out).mono ?_)
                    rintro e v9 ⟨rfl, hb⟩
                    have HB9 := Lib.hid (below_step HO9.out.bl hb)
                    clear hb HO9 HJ9
                    go_wp2_with (fail)
                    go_at_call 48
                    (with_reducible refine (awaked_calls _ (HG.out.below HB9.out)).mono ?_)
                    rintro e v10 ⟨rfl, hb⟩
                    have HB10 := Lib.hid (below_step HB9.out hb)
                    clear hb
                    go_wp2
                    go_ret
                    exact ⟨rfl, HB10.out⟩
                  -- ]]
          -- ]]
end Go.Proofs.YtphaaagcdjpceaaDoor
