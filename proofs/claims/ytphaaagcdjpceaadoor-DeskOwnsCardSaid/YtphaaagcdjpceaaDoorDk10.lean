/- desk: Close of a session that is there. -/
import Derived.Test.YtphaaagcdjpceaaDoorDk9
import Derived.Deep.QuietTactic
import Derived.BigQuiet
namespace Go.Proofs.YtphaaagcdjpceaaDoor
open Go.RowKit Go.Extern.Stop Go.Stop Go.Extern Go.Proofs.YtphaaagcdjpceaaDoorW.PrintWords Go.Proofs.YtphaaagcdjpceaaDoorW.PrintLast Go.Proofs.YtphaaagcdjpceaaDoorW.PrintMore
open Go.Maps (Keyed)
set_option linter.unusedVariables false
/-- What a map's turning leaves of an elder world. -/
structure Pd (W w' : World) (M n : Nat) (D : DataW Unit) : Prop where
  mp : MP w' M n D
  gr : W.grownBy w' (some M)
set_option maxRecDepth 100000 in
theorem upon_del {o : Oper} {a : Act} {K : Act → World → Prop} {Q : Exit → Act → World → Prop} {W : World} {M n : Nat} {D : DataW Unit} {p : Int} {ty : TypeId} {f : Value → World → Result Next} (h : MP W M n D) (hp : (Lit.int .i64 p).wf = true)
    (hk : ∀ w', Pd W w' M n (D.del (.int .i64 p)) → Oper.upon Tryd.prog o a K Q ((Result.ok (.tuple #[]) w').andThen f)) :
    Oper.upon Tryd.prog o a K Q ((Sem.run Tryd.prog (Builtin.delete_ #[131, 3] ty #[.map (some M), .int .i64 p]) W).andThen f) := by
  obtain ⟨w', hr, h1, h2⟩ := World.ownsMap.drop h key3 Tryd.underlying131 (Go.Maps.keyOf_int_mk Tryd.underlying3 hp) ty
  rw [hr]
  exact hk w' ⟨h1, h2.grown⟩
theorem infoI3 : (Tryd.prog.info? 3).map (fun i => (i.zero, i.size, i.bytes)) = some (some (.int .i64 0), 1, 8) := by kernel_rfl
set_option maxHeartbeats 8000000 in
set_option maxRecDepth 100000 in
theorem close_ok (d base pg M sb : Nat) (most n : Int) (ps : List S108) (snaps : Int) (cap : Nat) (D : DataW Unit) (i : Nat) (t : Int) (sm : Int) (s : Sn) (w : World) (h : DK w base d pg M most n ps snaps cap D) (hi : i < ps.length) (hl : ps.length ≤ 1000) (hh : hasB ps (i : Int) t = true) (hs : D.atKey (.int .i64 (i : Int)) .nil = .lit (.int .i64 (sb : Int)))
    (hn0 : -1000000 ≤ n) (hn1 : n ≤ 1000000) (hM : base ≤ M) (hS : SS w base sb sm s) (hmax : Go.Maps.size s.D ≤ 1000000) (val : Int → Int) (hval : ∀ k ∈ Go.intKeys s.D, (Lit.int .i64 k).wf = true ∧ s.D.atKey (.int .i64 k) (.lit (.int .i64 0)) = .lit (.int .i64 (val k))) (hne : ∀ k, foot w sb s k → k ≠ pg ∧ some k ≠ abk w pg ∧ k ≠ M) :
    Calls Tryd.prog 43 #[.pointer (some ⟨d, 0, none⟩), .agg #[.int .i64 (i : Int), .int .i64 t]] w fun e w' => ∃ v, e = .returned (.tuple #[v, .nilIface]) ∧ Kd.R (Kd.int .i64) 3 w' w.heap.size (fun _ => True) v (((Go.intKeys s.D).mergeSort (fun x y => decide (x ≤ y))).map val) ∧ DK w' base d pg M most (n - 1) (ps.set i ⟨(plc ps i).f0, false⟩) snaps cap (D.del (.int .i64 (i : Int))) ∧ DF pg M w w' ∧ Below base w w' := by
  have B1 := below_alloc (Below.refl w.heap.size w) (.cells #[.int .i64 (i : Int), .int .i64 t] 40)
  have HN := Lib.hid (show Hn (w.alloc (.cells #[.int .i64 (i : Int), .int .i64 t] 40)) w.heap.size (i : Int) t from heap_alloc_new w _)
  have HD := Lib.hid (h.below B1)
  have HS := Lib.hid (hS.below B1)
  have HB := Lib.hid B1
  have HE := Lib.hid (fun k hk => hne k ((foot_same (B1.block s.sg hS.pl.glt) k).1 hk) : ∀ k, foot (w.alloc (.cells #[.int .i64 (i : Int), .int .i64 t] 40)) sb s k → k ≠ pg ∧ some k ≠ abk w pg ∧ k ≠ M)
  have HPW := Lib.hid h.pl.glt
  have HBW := Lib.hid (And.intro h.pl.lt hM)
  have HVAL := Lib.hid hval
  have HMX := Lib.hid hmax
  clear hval hmax
  have HA := Lib.hid (And.intro hi (And.intro hl (And.intro hh (And.intro hs (And.intro hn0 hn1)))))
  have HWF := Lib.hid (show (Lit.int .i64 (i : Int)).wf = true from wf_i64 (by omega) (by omega))
  clear B1 h hi hl hh hs hn0 hn1 hS hne hM
  go_enter Tryd.func43, Tryd.ntmps43
  go_upto_region 1 with (fail)
  generalize w.alloc (.cells #[.int .i64 (i : Int), .int .i64 t] 40) = w1 at *
  have q0 := (blk_cell HD.out.hd 0).trans (show _ = some (Value.pointer (some ⟨pg, 0, none⟩)) from rfl)
  have k0 := (blk_cell HN.out 0).trans (show _ = some (Value.int .i64 (i : Int)) from rfl)
  have k1 := (blk_cell HN.out 1).trans (show _ = some (Value.int .i64 t) from rfl)
  obtain ⟨hi, hl, hh, hs, hn0, hn1⟩ := HA.out
  have HFr : Hid (∀ W', Below w1.heap.size w1 W' → Calls Tryd.prog 17 #[.pointer (some ⟨pg, 0, none⟩), .agg #[.int .i64 (i : Int), .int .i64 t]] W' fun e w' => e = .returned .nilIface ∧ PL w' base pg most (ps.set i ⟨(plc ps i).f0, false⟩) (n - 1) ∧ Fq base pg W' w') := fun W' hb' => free_oq pg base most n ps i t W' (HD.out.pl.below hb') hi hh hn0 hn1
  clear hi hl hh hs hn0 hn1
  go_cut [6] (fun v6 wc => v6 = .nilIface ∧ Hid (PL wc base pg most (ps.set i ⟨(plc ps i).f0, false⟩) (n - 1)) ∧ Hid (Fq base pg w1 wc))
  case first =>
    have HK1 := Lib.hid (Below.refl w1.heap.size w1)
    have HPG := Lib.hid HD.out.pl.glt
    have HLB := Lib.hid (show base ≤ w1.heap.size from HD.out.pl.lt)
    go_region_held3 (fun w' => w'.cell? ⟨d, 0, none⟩ = some (.pointer (some ⟨pg, 0, none⟩)) ∧ w'.cell? ⟨w.heap.size, 0, none⟩ = some (.int .i64 (i : Int)) ∧ w'.cell? ⟨w.heap.size, 1, none⟩ = some (.int .i64 t)) (first | go_keep | exact ⟨q0, k0, k1⟩ | exact ⟨(blk_cell ((HF2.out.fr.2.2 d _ _ _ HD.out.hd (by decide)).trans HD.out.hd) 0).trans rfl, (blk_cell ((HF2.out.fr.2.2 w.heap.size _ _ _ HN.out (by decide)).trans HN.out) 0).trans rfl, (blk_cell ((HF2.out.fr.2.2 w.heap.size _ _ _ HN.out (by decide)).trans HN.out) 1).trans rfl⟩) ((go_at_call 17; (with_reducible refine (HFr.out _ (by first | exact HK1.out | exact below_drew1 HK1.out)).mono ?_); rintro e wx ⟨rfl, hp, hf⟩; have HP2 := Lib.hid hp; have HF2 := Lib.hid (show Fq base pg w1 wx from (Fq.of_below (below_drew1 HK1.out) HLB.out HPG.out).trans hf); clear hp hf))
    all_goals (
      go_wp2
      go_meet
      case rel => exact ⟨rfl, HP2, HF2⟩)
  case rest =>
    obtain ⟨rfl, HP2, HF2⟩ := hcut
    have hab : abk w1 pg = abk w pg := abk_same (HB.out.block pg HPW.out)
    have hd2 := (HF2.out.fr.2.2 d _ _ _ HD.out.hd (by decide)).trans HD.out.hd
    have HDc := Lib.hid (show DK wc base d pg M most (n - 1) (ps.set i ⟨(plc ps i).f0, false⟩) snaps cap D from ⟨hd2, HP2.out, mp_oth HD.out HF2.out.oth⟩)
    have HSc := Lib.hid (HS.out.same (W1 := wc) (fun k hk => HF2.out.oth.1 k (HS.out.lt k hk).2 (HE.out k hk).1 (by rw [hab]; exact (HE.out k hk).2.1)))
    have HNc := Lib.hid (show Hn wc w.heap.size (i : Int) t from (HF2.out.fr.2.2 w.heap.size _ _ _ HN.out (by decide)).trans HN.out)
    clear hab hd2 q0 k0 k1 HFr
    have q2 := (blk_cell HDc.out.hd 2).trans (show _ = some (Value.map (some M)) from rfl)
    have k0 := (blk_cell HNc.out 0).trans (show _ = some (Value.int .i64 (i : Int)) from rfl)
    have s3 := (blk_cell HSc.out.hd 3).trans (show _ = some (Value.map (some s.mb)) from rfl)
    have hlk := HDc.out.mp.look (i : Int) HWF.out HA.out.2.2.2.1
    go_upto_region 4 with (fail)
    go_quiet (fail)
    rename_i nq
    clear hlk s3
    go_upto_region 5 with (fail)
    have HD5 := Lib.hid (HDc.out.below (pw_below_drewN (Below.refl wc.heap.size wc) nq))
    have HS5 := Lib.hid (HSc.out.below (pw_below_drewN (Below.refl wc.heap.size wc) nq))
    have HN5 := Lib.hid (show Hn (wc.drewN nq) w.heap.size (i : Int) t from HNc.out)
    have HK5 := Lib.hid (pw_below_drewN (Below.refl wc.heap.size wc) nq)
    have HW5 := Lib.hid (show DF pg M w (wc.drewN nq) ∧ Below base w (wc.drewN nq) from ⟨((DF.of_below HB.out HPW.out).trans (DF.of_oth HF2.out.oth HF2.out.fr.1.size)).trans (DF.of_below HK5.out HDc.out.pl.glt), ((HB.out.mono HBW.out.1).trans HF2.out.fr.1).trans (HK5.out.mono HDc.out.pl.lt)⟩)
    clear q2 k0
    generalize wc.drewN nq = w5 at *
    have q2 := (blk_cell HD5.out.hd 2).trans (show _ = some (Value.map (some M)) from rfl)
    have k0 := (blk_cell HN5.out 0).trans (show _ = some (Value.int .i64 (i : Int)) from rfl)
    have HAP := Lib.hid HD5.out.apart
    have HXM := Lib.hid (show w.heap.size ≠ M by
      intro e
      obtain ⟨es, clock, hm, _⟩ := HD5.out.mp
      have hx := HN5.out
      unfold Hn at hx
      rw [e, hm] at hx; cases hx)
    go_cut [7] (fun v7 wd => v7 = .map (some s.mb) ∧ Hid (Pd w5 wd M cap (D.del (.int .i64 (i : Int)))))
    case first =>
      go_region_held3 (fun w' => w'.cell? ⟨d, 2, none⟩ = some (.map (some M)) ∧ w'.cell? ⟨w.heap.size, 0, none⟩ = some (.int .i64 (i : Int))) (first | go_keep | exact ⟨q2, k0⟩ | exact ⟨(World.cell?_of_block (a := ⟨d, 2, none⟩) (HPD.out.gr.block d (cell_lt q2) (by rintro e; injection e with e; exact HAP.out.1 e))).trans q2, (World.cell?_of_block (a := ⟨w.heap.size, 0, none⟩) (HPD.out.gr.block w.heap.size (cell_lt k0) (by rintro e; injection e with e; exact HXM.out e))).trans k0⟩) ((refine upon_del (show MP w5.drew M cap D from HD5.out.mp) HWF.out ?_; intro wm hm1; have HPD := Lib.hid (show Pd w5 wm M cap (D.del (.int .i64 (i : Int))) from ⟨hm1.mp, ⟨hm1.gr.os, hm1.gr.tape, hm1.gr.output, hm1.gr.size, hm1.gr.block⟩⟩); clear hm1; go_simp))
      all_goals (
        go_wp2
        go_meet
        case rel => exact ⟨rfl, HPD⟩)
    case rest =>
      obtain ⟨rfl, HPD⟩ := hcut
      have HDe := Lib.hid (HD5.out.put HPD.out.gr HPD.out.mp)
      have HW6 := Lib.hid (And.intro (HW5.out.1.trans (DF.of_put HPD.out.gr HD5.out.pl.glt HAP.out.2.1)) (Below.grown HW5.out.2 HPD.out.gr (Nat.le_trans HBW.out.1 HW5.out.1.size) (fun k hk => by injection hk with hk; subst hk; exact HBW.out.2)))
      have HRM := Lib.hid (show RM wc s.mb s.cap s.D from by
        obtain ⟨es, clock, hm, r⟩ := HS5.out.mp
        exact ⟨es, clock, (HPD.out.gr.block s.mb (blk_lt hm) (by rintro e; injection e with e; exact (HE.out s.mb (.inr (.inr (.inr (.inl rfl))))).2.2 e)).trans hm, r⟩)
      clear q2 k0 HD5 HS5 HN5 HK5 HPD HW5 HDc HSc HNc HD HS HN
      go_upto_region 8 with (first | (go_at_call 65; (with_reducible refine (keys_calls _ _).mono ?_); rintro e w6 ⟨rfl, rfl⟩) | (go_at_call 64; (with_reducible refine (sorted_calls s.mb s.cap s.D _ HRM.out HMX.out).mono ?_); rintro e w7 ⟨v, ks0, rfl, hpm, hrow, hb⟩; obtain ⟨A7, c7, rfl⟩ := Kd.R_slice hrow))
      obtain ⟨ks, hks⟩ : ∃ ks, ks0.mergeSort (fun x y => decide (x ≤ y)) = ks := ⟨_, rfl⟩
      rw [hks] at hrow
      have hlen : ks0.length = ks.length := by rw [← hks, List.length_mergeSort]
      rw [hlen]
      have HKS := Lib.hid (show ∀ k ∈ ks, (Lit.int .i64 k).wf = true ∧ s.D.atKey (.int .i64 k) (.lit (.int .i64 0)) = .lit (.int .i64 (val k)) from fun k hk => HVAL.out k (hpm.mem_iff.1 ((List.mergeSort_perm _ _).mem_iff.1 (by rw [hks]; exact hk))))
      have HPM := Lib.hid (show ks0.mergeSort (fun x y => decide (x ≤ y)) = ks ∧ ks0.Perm (Go.intKeys s.D) from ⟨hks, hpm⟩)
      have HRW := Lib.hid hrow
      have B6 := below_alloc (Below.refl wc.heap.size wc) (.cells #[.map (some s.mb)] 123)
      have hb7 : Below wc.heap.size wc w7 := below_step B6 (by rw [World.size_alloc]; exact hb)
      have HB7 := Lib.hid hb7
      have HR7 := Lib.hid (show RM w7 s.mb s.cap s.D from by
        obtain ⟨es, clock, hm, r⟩ := HRM.out
        exact ⟨es, clock, (hb7.block s.mb (blk_lt hm)).trans hm, r⟩)
      have HLK := Lib.hid (show ks.length ≤ 4000000000 from by
        have h2 := hpm.length_eq
        have h3 := HMX.out
        rw [← hlen, h2]
        cases hD : s.D <;> rw [hD] at h3 <;> simp [intKeys, Go.Maps.size] at h3 ⊢ <;> omega)
      clear B6 hb7 hrow hpm hks hb HRM hlen
      go_wp2_with (fail)
      go_loopg [8, 40] ks.length (fun gk v8 v40 wr => ∃ (j : Nat) (L : List Int), v40 = .int .i64 (j : Int) ∧ j ≤ ks.length ∧ ks.length - j ≤ gk ∧ Hid (L = (ks.take j).map val) ∧ Hid (Kd.R (Kd.int .i64) 3 wr w7.heap.size (fun _ => True) v8 L) ∧ Hid (Below w7.heap.size w7 wr))
      case atStart => exact ⟨0, [], rfl, by omega, by omega, Lib.hid rfl, Lib.hid (Kd.R_nil _ _ _ _ _), Lib.hid (Below.refl _ _)⟩
      case round =>
        obtain ⟨j, L, rfl, hj, hk, HL, HO, HBr⟩ := hrel
        by_cases c1 : j < ks.length
        · have b1 : decide ((j : Int) < (ks.length : Int)) = true := decide_eq_true (by omega)
          have b1' : decide (j < ks.length) = true := decide_eq_true c1
          obtain ⟨ad, hA, hx⟩ := Kd.at_int (Kd.C_below (Kd.R_reads' HRW.out).2.2 HBr.out) (j : Int) (by omega) (by omega)
          cases hA
          simp only [Int.toNat_natCast] at hx
          have hrd : rd ks (j : Int) = ks[j] := by simp [rd, c1]
          rw [hrd] at hx
          have hkk := HKS.out ks[j] (List.getElem_mem c1)
          obtain ⟨k, hkj⟩ : ∃ k, ks[j] = k := ⟨_, rfl⟩
          rw [hkj] at hx hkk
          have hlk := RM.look (show RM wr s.mb s.cap s.D from by
            obtain ⟨es, clock, hm, r⟩ := HR7.out
            exact ⟨es, clock, (HBr.out.block s.mb (blk_lt hm)).trans hm, r⟩) k hkk.1 hkk.2
          have hlk0 : (Instr.lookup 123 (.map (some s.mb)) (.int .i64 k) false).run Tryd.prog wr = .ok (.int .i64 (val k)) wr := hlk 0
          clear hlk
          have hkq : ks[j]? = some k := by rw [List.getElem?_eq_getElem c1, hkj]
          have HKJ := Lib.hid (And.intro c1 (And.intro hkq hk))
          have hlk9 := HLK.out
          have p1 := eq_true (show 0 ≤ (j : Int) by omega)
          have q1 := eq_true (show (j : Int) < (ks.length : Int) by omega)
          obtain ⟨A8, c8, hv8⟩ := Kd.R_slice HO.out
          cases hv8
          clear hk hkk hkj hrd hkq c1
          go_wp2_with ((with_reducible refine gate_builtin (b := .append) (xs := #[.tmp 44, .tmp 48]) rfl ?_); at_builtin; refine Kd.R_append (Kd.int .i64) (w0 := w7) w7.heap.size rfl (.tmp 44) (.tmp 48) 35 3 (.int .i64 0) 8 rfl Tryd.underlying35 infoI3 rfl (by decide) (by decide) (.slice A8 L.length c8) L (val k) [.int .i64 (val k)] (fun _ => True) (fun _ => False) rfl ?aX ?aP (fun _ hk => hk.elim) ?aF ?aO ?aB ?aS ?aL ?_; (case aX => first | rfl | (go_simp; done) | (go_simp; rfl)); (case aP => exact rfl); (case aB => exact HBr.out); (case aF => exact (fun _ _ => trivial)); (case aO => exact HO.out); (case aS => exact HBr.out.size); (case aL => (have := HLK.out; rw [HL.out]; simp only [List.length_map, List.length_take]; omega)); intro v9 w9 ho hb hg hat; have HO3 := Lib.hid ho; have HB3 := Lib.hid hb; clear ho hb hg hat)
          go_roundg (ks.length - (j + 1))
          case measure => have := HKJ.out.1; have := HKJ.out.2.2; omega
          case rel => exact ⟨j + 1, _, by simp, by have := HKJ.out.1; omega, by have := HKJ.out.1; have := HKJ.out.2.2; omega, Lib.hid (by rw [HL.out, List.take_add_one, HKJ.out.2.1]; simp), HO3, HB3⟩
        · have b1 : decide ((j : Int) < (ks.length : Int)) = false := decide_eq_false (by omega)
          have b1' : decide (j < ks.length) = false := decide_eq_false c1
          obtain rfl : j = ks.length := by omega
          obtain ⟨A8, c8, hv8⟩ := Kd.R_slice HO.out
          cases hv8
          have hwr := below_step HB7.out HBr.out
          have HF := Lib.hid (And.intro (HDe.out.below hwr) (And.intro (HW6.out.1.trans (DF.of_below hwr HDe.out.pl.glt)) (HW6.out.2.trans (hwr.mono HDe.out.pl.lt))))
          have HRF := Lib.hid (show Kd.R (Kd.int .i64) 3 wr w.heap.size (fun _ => True) (.slice A8 L.length c8) (((Go.intKeys s.D).mergeSort (fun x y => decide (x ≤ y))).map val) from by
            have e1 := mergeSort_of_perm_i HPM.out.2
            have e2 : (Go.intKeys s.D).mergeSort (fun x y => decide (x ≤ y)) = ks := e1.symm.trans HPM.out.1
            have e3 := HL.out
            rw [List.take_length] at e3
            rw [e2, ← e3]
            exact Kd.R_lower HO.out (Nat.le_trans HW6.out.1.size HB7.out.size))
          clear hwr hj hk
          go_wp2_with (fail)
          go_ret2
          exact ⟨_, rfl, HRF.out, HF.out.1, HF.out.2.1, HF.out.2.2⟩
end Go.Proofs.YtphaaagcdjpceaaDoor
