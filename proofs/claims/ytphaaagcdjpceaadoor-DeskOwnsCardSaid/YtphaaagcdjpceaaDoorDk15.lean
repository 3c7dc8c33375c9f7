/- desk: Kept. -/
import Derived.Test.YtphaaagcdjpceaaDoorDk16
import Derived.Maps.Range
import Derived.Maps.RangeWalk
import Derived.Lib.SlKeysI
namespace Go.Proofs.YtphaaagcdjpceaaDoor
open Go.RowKit Go.Sort Go.Shelf Go.Extern.Stop Go.Stop Go.Extern Go.Proofs.YtphaaagcdjpceaaDoorW.PrintWords Go.Proofs.YtphaaagcdjpceaaDoorW.PrintLast Go.Proofs.YtphaaagcdjpceaaDoorW.PrintMore
open Go.Maps (Keyed)
set_option linter.unusedVariables false
/-- slices.Sort of a row of the caller's own. -/
theorem sort_R {base : Nat} {ok : Nat → Prop} {v : Value} {L : List Int} {W : World} (h : Kd.R (Kd.int .i64) 3 W base ok v L) (hl : L.length < 4611686018427387904) :
    Calls Tryd.prog 66 #[v] W fun e w' => e = .returned (.tuple #[]) ∧ Kd.R (Kd.int .i64) 3 w' base ok v (L.mergeSort (fun x y => decide (x ≤ y))) ∧ W.grownBy w' v.ownBlock := by
  obtain ⟨hlen, ⟨rfl, hn⟩ | ⟨g, cap, cur, rfl, hbase, hb, h1, h2, h3, h4⟩⟩ := Kd.own_of_R h
  · have hL : L = [] := List.eq_nil_of_length_eq_zero hn
    subst hL
    refine (AnyM.slices_Sort_int_none Tryd.sortA none 0 W).mono ?_
    rintro e w' ⟨rfl, rfl⟩
    exact ⟨rfl, by rw [List.mergeSort_nil]; exact Kd.R_nil _ _ _ _ _, rfl, rfl, rfl, Nat.le_refl _, fun _ _ _ => rfl⟩
  · have hH : Holds (Value.int .i64) W g 0 L.toArray := holds_of_block_i hb (by rw [Nat.mul_one] at h4; exact h4)
    refine (AnyM.slices_Sort_int Tryd.sortA g 0 cap L W hH (blk_lt hb) hl).mono ?_
    rintro e w' ⟨rfl, n, os, rfl⟩
    have hs : (L.mergeSort (fun x y => decide (x ≤ y))).length = L.length := List.length_mergeSort _
    refine ⟨rfl, Kd.R_of_own ?_ h.1, ?_⟩
    · rw [hs]; exact ownsRow_sorted_i hs hbase hb h1 h2 h3
    · exact grownBy_sorted_i _
/-- A pointer to a block's head, or none. -/
def mkP : Option Nat → Value
  | some b => .pointer (some ⟨b, 0, none⟩)
  | none => .pointer none
theorem ptrEl_shape (v : Value) (y : DataW Unit × List MemPlace) (h : ptrEl v = some y) : ∃ c, v = mkP c := by
  unfold ptrEl at h
  split at h
  · exact ⟨some _, rfl⟩
  · exact ⟨none, rfl⟩
  · cases h
set_option maxRecDepth 100000 in
theorem key_shape (key : Value) (kl : Lit) (h : Go.keyOf Tryd.prog 3 key = some kl) : ∃ x, key = Value.int .i64 x := by
  obtain ⟨x, rfl, _⟩ := Go.Maps.keyOf_int_inv Tryd.underlying3 h
  exact ⟨x, rfl⟩
/-- A row's block is neither map nor iterator: what another block's turning leaves. -/
theorem R_but {α : Type} {d : Kd α} {e base r : Nat} {ok : Nat → Prop} {W W1 : World} {v : Value} {xs : List α} (h : d.R e W base ok v xs) (hE : d.E = []) (hg : W.grownBy W1 (some r)) (hok : ∀ k, ok k → k ≠ r) : d.R e W1 base ok v xs :=
  Kd.R_grown h hg (fun k hk he => hok k hk (by injection he))
set_option maxHeartbeats 4000000 in
set_option maxRecDepth 100000 in
theorem kept_ok (d base pg M : Nat) (most n : Int) (ps : List S108) (snaps : Int) (cap : Nat) (D : DataW Unit) (sm : Int) (F : Int → Nat × Sn) (w : World) (h : Dsk w base d pg M most n ps snaps cap D sm F) (val : Int → Int → Int)
    (hV : ∀ x, hasI D x → ∀ k, hasI (F x).2.D k → (F x).2.D.atKey (.int .i64 k) .nil = .lit (.int .i64 (val x k))) (hs1 : Go.Maps.size D ≤ 1000) (hs2 : ∀ x, hasI D x → Go.Maps.size (F x).2.D ≤ 1000) :
    Calls Tryd.prog 46 #[.pointer (some ⟨d, 0, none⟩)] w fun e w' => ∃ v V, e = .returned v ∧ Kd.R (Kd.int .i64) 3 w' w.heap.size (fun _ => True) v ((V : List Int).mergeSort (fun x y => decide (x ≤ y))) ∧ V.Perm ((Go.intKeys D).flatMap fun x => (Go.intKeys (F x).2.D).map (val x)) ∧ Below w.heap.size w w' := by
  have HD := Lib.hid h.dk
  have HX := Lib.hid (fun x (hx : hasI D x) => h.at_ x hx)
  have HS1 := Lib.hid hs1
  have HS2 := Lib.hid hs2
  have HVL := Lib.hid hV
  have q2 := (blk_cell h.dk.hd 2).trans (show _ = some (Value.map (some M)) from rfl)
  clear h hs1 hs2 hV
  go_enter Tryd.func46, Tryd.ntmps46
  go_wp2_with ((with_reducible refine gate_dst (N := 12) rfl ?_); refine Go.wpList_range_own _ rfl (.tmp 11) 131 rfl 3 134 key3 Tryd.underlying131 ptrEl M cap D rfl HD.out.mp ?_; intro w2 hrg hg hsz; have HRG := Lib.hid hrg; have HG := Lib.hid hg; have HSZ := Lib.hid hsz; clear hrg hg hsz)
  have HB := Lib.hid (show Below w.heap.size w w2 from ⟨HG.out.os, HG.out.tape, HG.out.output, HG.out.size, fun k hk => HG.out.block k hk (by simp)⟩)
  (try simp only [Act.put, List.setIfInBounds_toArray, List.set_cons_zero, List.set_cons_succ])
  go_loopg [3] (Go.Maps.size D) (fun gk v3 wr => ∃ (V : List Int) (left : Lit → Bool) (cnt : Nat) (L : List Int), cnt ≤ gk ∧ V.length + cnt ≤ Go.Maps.size D ∧ L.length ≤ V.length * 1000 ∧ Hid (Go.CollectedI D left V) ∧ Hid (L.Perm (V.flatMap fun x => (Go.intKeys (F x).2.D).map (val x))) ∧ Hid (wr.ranges Tryd.prog 3 ptrEl M w.heap.size cap D left cnt) ∧ Hid (Kd.R (Kd.int .i64) 3 wr w.heap.size (fun k => k ≠ w.heap.size) v3 L) ∧ Hid (Below w.heap.size w wr) ∧ Hid (w.heap.size < wr.heap.size))
  case atStart => exact ⟨[], _, _, [], Nat.le_refl _, by simp, by simp, Lib.hid (Go.CollectedI.start D), Lib.hid (by simp), HRG, Lib.hid (Kd.R_nil _ _ _ _ _), HB, Lib.hid (by rw [HSZ.out]; omega)⟩
  case round =>
    obtain ⟨V, left, cnt, L, hc, hvc, hll, HT, HP, HR, HO, HBr, HLT⟩ := hrel
    obtain ⟨A3, c3, hv3⟩ := Kd.R_slice HO.out
    cases hv3
    go_wp2_with ((with_reducible refine gate_dst (N := 13) rfl ?_); refine Go.wpList_next_ranges _ rfl (.tmp 12) rfl 3 key3 ptrEl (Value.int .i64) mkP key_shape ptrEl_shape M w.heap.size cap D left cnt rfl HR.out ?hd ?hm)
    case hd =>
      intro hz hl
      have HPM := Lib.hid (HT.out.perm HR.out.owns key3 Tryd.underlying3 hl)
      clear HR HRG
      have hlen : L.length < 4611686018427387904 := by have := HS1.out; omega
      go_wp2_with (go_at_call 66; (with_reducible refine (sort_R HO.out hlen).mono ?_); rintro e w6 ⟨rfl, hr6, hg6⟩; have HR6 := Lib.hid hr6; have HG6 := Lib.hid hg6; clear hr6 hg6)
      go_ret
      refine ⟨_, L, rfl, Kd.R_mono HR6.out (fun _ _ => trivial), HP.out.trans (HPM.out.flatMap_right _), ?_⟩
      exact Below.grown HBr.out HG6.out HBr.out.size (fun k hk => by exact ((Kd.R_bound HO.out).1 k hk).2.1)
    case hm =>
      intro x c kl ya yb w3 cnt2 hkl hlf hpe hat hrg hlt hgr hsz hen
      obtain ⟨x', e1, rfl, hwx⟩ := Go.Maps.keyOf_int_inv Tryd.underlying3 hkl
      cases e1
      have hhas : hasI D x := Go.Maps.has_true_of_atKey hat
      obtain ⟨hsD, hSS⟩ := HX.out x hhas
      have hc2 : c = some (F x).1 := by
        have h1 := hat .nil
        rw [hsD] at h1
        cases c with
        | none => simp [mkP, ptrEl] at hpe; rw [← hpe.1] at h1; cases h1
        | some b => simp [mkP, ptrEl] at hpe; rw [← hpe.1] at h1; injection h1 with h1; injection h1 with _ h1; congr 1; omega
      subst hc2
      rw [show mkP (some (F x).1) = .pointer (some ⟨(F x).1, 0, none⟩) from rfl] at hen ⊢
      have HT2 := Lib.hid (HT.out.step hlf hat)
      have HRG2 := Lib.hid hrg
      have HGR := Lib.hid hgr
      have HHX := Lib.hid hhas
      have HSZ3 := Lib.hid hsz
      clear hat hpe hkl hrg hgr hlf hsD hhas hsz
      go_upto_region 5 with (fail)
      have HB3 := Lib.hid (Below.grown HBr.out HGR.out HBr.out.size (fun k hk => by injection hk with hk; omega))
      have HS3 := Lib.hid (hSS.below HB3.out)
      have HO3 := Lib.hid (R_but HO.out rfl HGR.out (fun k hk => hk))
      have s3 := (blk_cell HS3.out.hd 3).trans (show _ = some (Value.map (some (F x).2.mb)) from rfl)
      go_wp2_with ((with_reducible refine gate_dst (N := 21) rfl ?_); refine Go.wpList_range_own _ rfl (.tmp 20) 123 rfl 3 3 key3 Tryd.underlying123 (plainElem Tryd.prog 3) (F x).2.mb (F x).2.cap (F x).2.D rfl HS3.out.mp ?_; intro w4 hrg hg hsz4; have HRG4 := Lib.hid hrg; have HG4 := Lib.hid hg; have HSZ4 := Lib.hid hsz4; clear hrg hg hsz4)
      (try simp only [Act.put, List.setIfInBounds_toArray, List.set_cons_zero, List.set_cons_succ])
      have HB4 := Lib.hid (Below.grown HB3.out HG4.out HB3.out.size (fun k hk => by cases hk))
      have HLT3 := Lib.hid (show w.heap.size < w3.heap.size by rw [HSZ3.out]; exact HLT.out)
      have HO4 := Lib.hid (show Kd.R (Kd.int .i64) 3 w4 w.heap.size (fun k => k ≠ w.heap.size ∧ k ≠ w3.heap.size) (.slice A3 L.length c3) L from Kd.R_mono (Kd.R_move (Kd.R_bound HO3.out) (fun k hk => HG4.out.block k hk.2.2.1 (by simp))) (fun k hk => ⟨hk.1, by have := hk.2.2.1; omega⟩))
      have HRG5 := Lib.hid (HRG2.out.kept HG4.out (by simp) (by simp))
      have HMB := Lib.hid (show (F x).2.mb < w.heap.size from hSS.mp.lt)
      have HMM := Lib.hid (show M < w.heap.size from HD.out.mp.lt)
      have HVX := Lib.hid (HVL.out x HHX.out)
      have HZX := Lib.hid (HS2.out x HHX.out)
      clear hSS HRG2 HR HO HO3 s3 HGR HG4 hen HS3 HT
      go_loopg [3] (Go.Maps.size (F x).2.D) (fun gk2 v3 wq => ∃ (V2 : List Int) (left2 : Lit → Bool) (cntq : Nat), cntq ≤ gk2 ∧ V2.length + cntq ≤ Go.Maps.size (F x).2.D ∧ Hid (Go.CollectedI (F x).2.D left2 V2) ∧ Hid (wq.ranges Tryd.prog 3 (plainElem Tryd.prog 3) (F x).2.mb w3.heap.size (F x).2.cap (F x).2.D left2 cntq) ∧ Hid (wq.ranges Tryd.prog 3 ptrEl M w.heap.size cap D (fun z => left z && !z.sameKey (.int .i64 x)) cnt2) ∧ Hid (Kd.R (Kd.int .i64) 3 wq w.heap.size (fun k => k ≠ w.heap.size ∧ k ≠ w3.heap.size) v3 (L ++ V2.map (val x))) ∧ Hid (Below w.heap.size w wq) ∧ Hid (w3.heap.size < wq.heap.size))
      case atStart => exact ⟨[], _, _, Nat.le_refl _, by simp, Lib.hid (Go.CollectedI.start _), HRG4, HRG5, Lib.hid (by simpa using HO4.out), HB4, Lib.hid (by rw [HSZ4.out]; omega)⟩
      case round =>
        obtain ⟨V2, left2, cntq, hc2, hvc2, HT3, HRi, HRo, HOi, HBi, HLi⟩ := hrel
        clear HRG4 HRG5 HO4 HB4 HSZ4
        obtain ⟨LL, hLL⟩ : ∃ LL, L ++ V2.map (val x) = LL := ⟨_, rfl⟩
        have HLL := Lib.hid (show LL.length = L.length + V2.length from by rw [← hLL]; simp)
        rw [hLL] at HOi
        have HL2 := Lib.hid hLL
        clear hLL
        obtain ⟨A4, c4, hv4⟩ := Kd.R_slice HOi.out
        cases hv4
        go_wp2_with ((with_reducible refine gate_dst (N := 22) rfl ?_); refine Go.wpList_next_ranges_ii _ rfl (.tmp 21) rfl 3 3 .i64 .i64 key3 Tryd.underlying3 Tryd.underlying3 (F x).2.mb w3.heap.size (F x).2.cap (F x).2.D left2 cntq rfl HRi.out ?hd2 ?hm2)
        case hd2 =>
          intro hz hl
          have HPM := Lib.hid (HT3.out.perm HRi.out.owns key3 Tryd.underlying3 hl)
          have HOd := Lib.hid (Kd.R_mono HOi.out (fun k hk => hk.1))
          clear HRi HOi HT3
          go_wp2_with (fail)
          go_roundg cnt2
          case measure => omega
          case rel =>
            refine ⟨V ++ [x], _, _, _, Nat.le_refl _, by simp; omega, ?_, HT2, Lib.hid ?_, HRo, HOd, HBi, Lib.hid (by have := HLT3.out; have := HLi.out; omega)⟩
            · have := HZX.out
              have := HLL.out
              simp only [List.length_append, List.length_cons, List.length_nil]
              omega
            · rw [List.flatMap_append, ← HL2.out]
              refine HP.out.append ?_
              simpa using HPM.out.map (val x)
        case hm2 =>
          intro y r w5 cnt3 hwy hwr hlf hat hrg hlt5 hgr hsz5 hen
          have hhas : hasI (F x).2.D y := Go.Maps.has_true_of_atKey hat
          have hr : r = val x y := by
            have h1 := hat .nil
            rw [HVX.out y hhas] at h1
            injection h1 with h1; injection h1 with _ h1; exact h1.symm
          have HT4 := Lib.hid (HT3.out.step hlf hat)
          have HRi5 := Lib.hid hrg
          have HRo5 := Lib.hid (HRo.out.kept hgr (by have := HMM.out; have := HLT3.out; simp; omega) (by have := HLT3.out; simp; omega))
          have HO5 := Lib.hid (R_but HOi.out rfl hgr (fun k hk => hk.2))
          have HB5 := Lib.hid (Below.grown HBi.out hgr HBi.out.size (fun k hk => by injection hk with hk; have := HLT3.out; omega))
          have HL5 := Lib.hid (show w3.heap.size < w5.heap.size by rw [hsz5]; exact HLi.out)
          have HVR := Lib.hid hr
          have hll2 : LL.length ≤ 2000000 := by
            have := HS1.out; have := HZX.out
            rw [HLL.out]
            have : V.length ≤ 1000 := by omega
            have : L.length ≤ 1000000 := by omega
            omega
          clear hat hhas hlf hrg hgr hsz5 hr HT3 HRi HRo HOi HBi HLi
          go_wp2_with ((with_reducible refine gate_builtin (b := .append) (xs := #[.tmp 26, .tmp 28]) rfl ?_); at_builtin; refine Kd.R_append (Kd.int .i64) (w0 := w) w.heap.size rfl (.tmp 26) (.tmp 28) 35 3 (.int .i64 0) 8 rfl Tryd.underlying35 infoI3 rfl (by decide) (by decide) (.slice A4 LL.length c4) LL r [.int .i64 r] (fun k => k ≠ w.heap.size ∧ k ≠ w3.heap.size) (fun _ => False) rfl ?aX ?aP (fun _ hk => hk.elim) ?aF ?aO ?aB ?aS ?aL ?_; (case aX => first | rfl | (go_simp; done) | (go_simp; rfl)); (case aP => exact rfl); (case aB => exact HB5.out); (case aF => exact (fun k hk => by have := HL5.out; have := HLT3.out; exact ⟨by omega, by omega⟩)); (case aO => exact HO5.out); (case aS => exact HB5.out.size); (case aL => omega); intro v9 w9 ho hb hg hat; have HO9 := Lib.hid ho; have HB9 := Lib.hid hb; have HG9 := Lib.hid hg; clear ho hb hg hat)
          have HNB := Lib.hid (show ∀ k, k = M ∨ k = (F x).2.mb ∨ k = w.heap.size ∨ k = w3.heap.size → some k ≠ (Value.slice A4 LL.length c4).ownBlock from fun k hk he => by
            have h1 := (Kd.R_bound HO5.out).1 k he.symm
            have h2 := h1.2.1
            have h3 := h1.1
            have := HMM.out; have := HMB.out
            rcases hk with rfl | rfl | rfl | rfl
            · omega
            · omega
            · exact h3.1 rfl
            · exact h3.2 rfl)
          go_roundg cnt3
          case measure => omega
          case rel =>
            refine ⟨V2 ++ [y], _, _, Nat.le_refl _, by simp; omega, HT4, Lib.hid (HRi5.out.kept HG9.out (HNB.out _ (.inr (.inl rfl))) (HNB.out _ (.inr (.inr (.inr rfl))))), Lib.hid (HRo5.out.kept HG9.out (HNB.out _ (.inl rfl)) (HNB.out _ (.inr (.inr (.inl rfl))))), Lib.hid ?_, HB9, Lib.hid (Nat.lt_of_lt_of_le HL5.out HG9.out.size)⟩
            rw [List.map_append, ← List.append_assoc, HL2.out]
            simpa [← HVR.out] using HO9.out
end Go.Proofs.YtphaaagcdjpceaaDoor
