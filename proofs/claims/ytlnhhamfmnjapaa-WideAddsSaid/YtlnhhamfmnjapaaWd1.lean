import Derived.Test.YtlnhhamfmnjapaaWd0
import Derived.Deep.DeepCutAuto
import Derived.Deep.CutBlock
namespace Go.Proofs.Ytlnhhamfmnjapaa
open Go.RowKit Go.Proofs.YtlnhhamfmnjapaaW.PrintWords Go.Proofs.YtlnhhamfmnjapaaW.PrintLast Go.Proofs.YtlnhhamfmnjapaaW.PrintMore
open PUnitRounds PUnitRounds.U
set_option linter.unusedVariables false
attribute [local go_sem ↓] exec_load27
attribute [local go_sem] sty_drew row_drew
def OutIn (W : World) (g : Nat) (a b c : Int) : Prop := W.heap[g]? = some (.cells #[.int .i64 a, .int .i64 b, .int .i64 c] 29 (0, 0))
theorem OutIn.cells {W : World} {g : Nat} {a b c : Int} (h : OutIn W g a b c) : W.cell? ⟨g, 0, none⟩ = some (.int .i64 a) ∧ W.cell? ⟨g, 1, none⟩ = some (.int .i64 b) ∧ W.cell? ⟨g, 2, none⟩ = some (.int .i64 c) ∧ (∀ i, W.frozen? ⟨g, i, none⟩ = false) := ⟨(blk_cell h 0).trans rfl, (blk_cell h 1).trans rfl, (blk_cell h 2).trans rfl, fun i => blk_frozen h i⟩
theorem OutIn.below {W W1 : World} {g : Nat} {a b c : Int} (h : OutIn W g a b c) (hb : Below W.heap.size W W1) : OutIn W1 g a b c := blk_below h hb
theorem OutIn.alloc {W : World} {g : Nat} {a b c : Int} (h : OutIn W g a b c) (o : Obj) : OutIn (W.alloc o) g a b c := (Below.heap_alloc W o g (blk_lt h)).trans h
theorem OutIn.set0 {W : World} {g : Nat} {a b c : Int} (h : OutIn W g a b c) (x : Int) : OutIn (W.setCell ⟨g, 0, none⟩ (.int .i64 x)) g x b c := blk_set h 0 _
theorem OutIn.set1 {W : World} {g : Nat} {a b c : Int} (h : OutIn W g a b c) (x : Int) : OutIn (W.setCell ⟨g, 1, none⟩ (.int .i64 x)) g a x c := blk_set h 1 _
theorem OutIn.set2 {W : World} {g : Nat} {a b c : Int} (h : OutIn W g a b c) (x : Int) : OutIn (W.setCell ⟨g, 2, none⟩ (.int .i64 x)) g a b x := blk_set h 2 _
theorem OutIn.far {W : World} {g : Nat} {a b c : Int} (h : OutIn W g a b c) {p : Addr} (hne : g ≠ p.block) (u : Value) : OutIn (W.setCell p u) g a b c := (Below.heap_setCell W p u g hne).trans h
def mlN (f : Nat → Int) (base : Int) : Int := sideN (f 29) (f 30) base
def mrN (f : Nat → Int) (base : Int) : Int := sideN (f 25) (f 26) base
def lstN (f : Nat → Int) (base : Int) : Int := lenN (f 13) (f 14) base
def mstN (f : Nat → Int) (base : Int) : Int := if lenB (f 17) base = true then lenN (f 17) (f 18) base else -1
def w0N (f : Nat → Int) (base : Int) : Int := if sideB (f 9) = true then sideN (f 9) (f 10) base else base - mlN f base - mrN f base - (f 34 + f 38) - (f 32 + f 36)
def wN (f : Nat → Int) (base : Int) : Int := clampN (w0N f base) (lstN f base) (mstN f base)
def overN (f : Nat → Int) (base : Int) : Int := base - wN f base - (f 34 + f 38) - (f 32 + f 36) - mlN f base - mrN f base
def widthV (f : Nat → Int) (base : Int) : Value := if sideB (f 9) = false ∧ wN f base = w0N f base then .agg #[.int .i64 (mlN f base), .int .i64 (wN f base), .int .i64 (mrN f base)] else sharedN (mlN f base) (wN f base) (mrN f base) (overN f base) (!sideB (f 29)) (!sideB (f 25))
theorem pct_near (b h : Int) : -1073741824 ≤ pct b h ∧ pct b h ≤ 1073741824 := held_bd (by decide)
theorem side_near {k n b : Int} (h : Near n) : Near (sideN k n b) := by
  unfold Near at *
  unfold sideN
  have := pct_near b n
  split
  · exact h
  · split <;> omega
theorem len_near {k n b : Int} (h : Near n) : 0 ≤ lenN k n b ∧ lenN k n b ≤ 68719476736 := by
  unfold Near at h
  unfold lenN
  have := pct_near b n
  split
  · omega
  · split <;> omega
theorem shared_agg (l w r over : Int) (aL aR : Bool) : ∃ a b c, sharedN l w r over aL aR = .agg #[.int .i64 a, .int .i64 b, .int .i64 c] := by
  unfold sharedN
  split
  · exact ⟨_, _, _, rfl⟩
  · split <;> exact ⟨_, _, _, rfl⟩
structure Bds (f : Nat → Int) (base : Int) : Prop where
  ml : Near (mlN f base)
  mr : Near (mrN f base)
  l : -137438953472 ≤ f 34 + f 38 ∧ f 34 + f 38 ≤ 137438953472
  r : -137438953472 ≤ f 32 + f 36 ∧ f 32 + f 36 ≤ 137438953472
  w0 : -687194767360 ≤ w0N f base ∧ w0N f base ≤ 687194767360
  w : 0 ≤ wN f base ∧ wN f base ≤ 687194767360
  over : -8796093022208 ≤ overN f base ∧ overN f base ≤ 8796093022208
theorem bds (f : Nat → Int) (base : Int) (hn : ∀ i, i < 43 → Near (f i)) (hb : Near base) : Bds f base := by
  have ml : Near (mlN f base) := side_near (hn 30 (by omega))
  have mr : Near (mrN f base) := side_near (hn 26 (by omega))
  have a1 := hn 34 (by omega)
  have a2 := hn 38 (by omega)
  have a3 := hn 32 (by omega)
  have a4 := hn 36 (by omega)
  have a5 : Near (sideN (f 9) (f 10) base) := side_near (hn 10 (by omega))
  have a6 : 0 ≤ lstN f base ∧ lstN f base ≤ 68719476736 := len_near (hn 14 (by omega))
  have a7 : -1 ≤ mstN f base ∧ mstN f base ≤ 68719476736 := by
    unfold mstN
    have := len_near (k := f 17) (b := base) (hn 18 (by omega))
    split <;> omega
  unfold Near at ml mr a1 a2 a3 a4 a5 hb
  have w0 : -687194767360 ≤ w0N f base ∧ w0N f base ≤ 687194767360 := by unfold w0N; split <;> omega
  have w : 0 ≤ wN f base ∧ wN f base ≤ 687194767360 := by unfold wN clampN; split <;> omega
  exact ⟨ml, mr, by omega, by omega, w0, w, by unfold overN; omega⟩
set_option maxHeartbeats 4000000 in
set_option maxRecDepth 100000 in
theorem width_cs (CS : Array Value) (f : Nat → Int) (hs : IsSty CS f) (hn : ∀ i, i < 43 → Near (f i)) (base : Int) (hbase : Near base) (w : World) : Calls Try.prog 13 #[.agg CS, .int .i64 base] w fun e w' => e = .returned (widthV f base) ∧ Below w.heap.size w w' := by
  have HS := Lib.hid hs
  have HBD := Lib.hid (bds f base hn hbase)
  have HED := Lib.hid (fun W => edges_cs CS f hs (fun i h1 h2 => hn i (by omega)) W)
  have HMN := Lib.hid (fun W => min_cs CS f hs false base W)
  have HMX := Lib.hid (fun W => max_cs CS f hs false base W)
  have HBB := Lib.hid hbase
  clear hs hn hbase
  go_enter Try.func13, Try.ntmps13
  go_upto_region 1 with (fail)
  have HST := Lib.hid (show StyIn ((w.alloc (.cells CS 27)).alloc (.cells #[.int .i64 0, .int .i64 0, .int .i64 0] 29)) w.heap.size CS from StyIn.alloc (heap_alloc_new w _) _)
  have HRS := Lib.hid (show OutIn ((w.alloc (.cells CS 27)).alloc (.cells #[.int .i64 0, .int .i64 0, .int .i64 0] 29)) (w.heap.size + 1) 0 0 0 from by have := heap_alloc_new (w.alloc (.cells CS 27)) (.cells #[.int .i64 0, .int .i64 0, .int .i64 0] 29); rw [World.size_alloc] at this; exact this)
  have HB := Lib.hid (below_alloc (below_alloc (Below.refl w.heap.size w) (.cells CS 27)) (.cells #[.int .i64 0, .int .i64 0, .int .i64 0] 29))
  generalize (w.alloc (.cells CS 27)).alloc (.cells #[.int .i64 0, .int .i64 0, .int .i64 0] 29) = W1 at *
  obtain ⟨hst, hrow⟩ := sty_of HST.out HS.out.1
  go_upto_region 2 with (go_at_call 19; (with_reducible refine (HED.out _).mono ?_); rintro e W2 ⟨rfl, hb⟩; have HST2 := Lib.hid (HST.out.below hb); have HRS2 := Lib.hid (HRS.out.below hb); have HB2 := Lib.hid (below_step HB.out hb); clear hb)
  clear HST HRS HB hst hrow HED
  go_upto_region 3 with (fail)
  have HB3 := Lib.hid (below_alloc HB2.out (.cells #[.int .i64 0, .int .i64 0, .int .i64 0] 29))
  have HST3 := Lib.hid (HST2.out.alloc (.cells #[.int .i64 0, .int .i64 0, .int .i64 0] 29))
  have HRS3 := Lib.hid (HRS2.out.alloc (.cells #[.int .i64 0, .int .i64 0, .int .i64 0] 29))
  have HOT3 := Lib.hid (show OutIn (W2.alloc (.cells #[.int .i64 0, .int .i64 0, .int .i64 0] 29)) W2.heap.size 0 0 0 from heap_alloc_new W2 _)
  have HNE := Lib.hid (show w.heap.size ≠ W2.heap.size ∧ w.heap.size + 1 ≠ W2.heap.size from ⟨Nat.ne_of_lt (blk_lt HST2.out), Nat.ne_of_lt (blk_lt HRS2.out)⟩)
  have HGE := Lib.hid (show w.heap.size ≤ W2.heap.size from HB2.out.size)
  clear HB2 HST2 HRS2
  generalize W2.alloc (.cells #[.int .i64 0, .int .i64 0, .int .i64 0] 29) = W3 at *
  generalize W2.heap.size = g2 at *
  obtain ⟨L, hL⟩ : ∃ L, f 34 + f 38 = L := ⟨_, rfl⟩
  obtain ⟨R, hR⟩ : ∃ R, f 32 + f 36 = R := ⟨_, rfl⟩
  rw [hL, hR]
  have HL := Lib.hid hL; have HR := Lib.hid hR
  clear hL hR
  have hbd := HBD.out
  have blL := hbd.l; have blR := hbd.r; have blml := hbd.ml; have blmr := hbd.mr; have blb := HBB.out
  rw [HL.out] at blL
  rw [HR.out] at blR
  unfold Near at blml blmr blb
  obtain ⟨bL0, bL1⟩ := blL
  obtain ⟨bR0, bR1⟩ := blR
  obtain ⟨bml0, bml1⟩ := blml
  obtain ⟨bmr0, bmr1⟩ := blmr
  obtain ⟨bb0, bb1⟩ := blb
  have c29 := HST3.out.cell HS.out 29 (by omega)
  have c30 := HST3.out.cell HS.out 30 (by omega)
  have e29 : ∀ W, Calls Try.prog 22 #[.agg #[.int .i64 (f 29), .int .i64 (f 30)], .int .i64 base] W fun e w' => e = .returned (.tuple #[.int .i64 (mlN f base), .bool (sideB (f 29))]) ∧ Below W.heap.size W w' := fun W => side_calls _ _ _ W
  have e25 : ∀ W, Calls Try.prog 22 #[.agg #[.int .i64 (f 25), .int .i64 (f 26)], .int .i64 base] W fun e w' => e = .returned (.tuple #[.int .i64 (mrN f base), .bool (sideB (f 25))]) ∧ Below W.heap.size W w' := fun W => side_calls _ _ _ W
  have HE29 := Lib.hid e29; have HE25 := Lib.hid e25
  clear e29 e25 hbd
  obtain ⟨ml, hml⟩ : ∃ ml, mlN f base = ml := ⟨_, rfl⟩
  obtain ⟨mr, hmr⟩ : ∃ mr, mrN f base = mr := ⟨_, rfl⟩
  have HML := Lib.hid hml; have HMR := Lib.hid hmr
  rw [hml] at HE29 bml0 bml1
  rw [hmr] at HE25 bmr0 bmr1
  clear hml hmr
  obtain ⟨tl, htl⟩ : ∃ tl, sideB (f 29) = tl := ⟨_, rfl⟩
  obtain ⟨tr, htr⟩ : ∃ tr, sideB (f 25) = tr := ⟨_, rfl⟩
  have HTL := Lib.hid htl; have HTR := Lib.hid htr
  rw [htl] at HE29
  rw [htr] at HE25
  clear htl htr
  go_upto_region 4 with (go_at_call 22; (with_reducible refine (HE29.out _).mono ?_); rintro e W4 ⟨rfl, hb⟩; have HST4 := Lib.hid (HST3.out.below hb); have HRS4 := Lib.hid (HRS3.out.below hb); have HOT4 := Lib.hid (HOT3.out.below hb); have HB4 := Lib.hid (below_step HB3.out hb); clear hb)
  clear c29 c30 HST3 HRS3 HOT3 HB3 HE29
  have c25 := HST4.out.cell HS.out 25 (by omega)
  have c26 := HST4.out.cell HS.out 26 (by omega)
  go_upto_region 5 with (go_at_call 22; (with_reducible refine (HE25.out _).mono ?_); rintro e W5 ⟨rfl, hb⟩; have HST5 := Lib.hid (HST4.out.below hb); have HRS5 := Lib.hid (HRS4.out.below hb); have HOT5 := Lib.hid (HOT4.out.below hb); have HB5 := Lib.hid (below_step HB4.out hb); clear hb)
  clear c25 c26 HST4 HRS4 HOT4 HB4 HE25
  obtain ⟨o0, o1, o2, of⟩ := HOT5.out.cells
  have of0 := of 0
  have of2 := of 2
  clear of
  go_upto_region 6 with (fail)
  have HB6 := Lib.hid (((HB5.out.setCell (p := ⟨g2, 0, none⟩) HGE.out (.int .i64 ml))).setCell (p := ⟨g2, 2, none⟩) HGE.out (.int .i64 mr))
  have HST6 := Lib.hid ((HST5.out.far (p := ⟨g2, 0, none⟩) HNE.out.1 (.int .i64 ml)).far (p := ⟨g2, 2, none⟩) HNE.out.1 (.int .i64 mr))
  have HRS6 := Lib.hid ((HRS5.out.far (p := ⟨g2, 0, none⟩) HNE.out.2 (.int .i64 ml)).far (p := ⟨g2, 2, none⟩) HNE.out.2 (.int .i64 mr))
  have HOT6 := Lib.hid ((HOT5.out.set0 ml).set2 mr)
  clear HB5 HST5 HRS5 HOT5 o0 o1 o2 of0 of2
  generalize (W5.setCell ⟨g2, 0, none⟩ (.int .i64 ml)).setCell ⟨g2, 2, none⟩ (.int .i64 mr) = W6 at *
  obtain ⟨least, hleast⟩ : ∃ least, lstN f base = least := ⟨_, rfl⟩
  obtain ⟨most, hmost⟩ : ∃ most, mstN f base = most := ⟨_, rfl⟩
  have HMN2 : Hid (∀ W, Calls Try.prog 39 #[.agg CS, .bool false, .int .i64 base] W fun e w' => e = .returned (.int .i64 least) ∧ Below W.heap.size W w') := fun W => by rw [← hleast]; exact HMN.out W
  have HMX2 : Hid (∀ W, Calls Try.prog 40 #[.agg CS, .bool false, .int .i64 base] W fun e w' => e = .returned (.int .i64 most) ∧ Below W.heap.size W w') := fun W => by rw [← hmost]; exact HMX.out W
  have HLEAST := Lib.hid hleast; have HMOST := Lib.hid hmost
  clear hleast hmost HMN HMX
  have HSTS := Lib.hid (sty_of HST6.out HS.out.1)
  have hss := HSTS.out
  go_cut [14, 15] (fun v14 v15 wc => v14 = .int .i64 least ∧ v15 = .int .i64 most ∧ Hid (Below W6.heap.size W6 wc))
  case first =>
    have HK := Lib.hid (Below.refl W6.heap.size W6)
    go_region_held3 (fun w' => StyAt w' (.pointer (some ⟨w.heap.size, 0, none⟩)) ∧ rowV w' (.pointer (some ⟨w.heap.size, 0, none⟩)) = CS) (first | go_keep | exact HSTS.out | exact sty_of (HST6.out.below HK1.out) HS.out.1) (first | (go_at_call 39; (with_reducible refine (HMN2.out _).mono ?_); rintro e wx ⟨rfl, hb⟩; first | (have HK1 := Lib.hid (below_step HK1.out hb)) | (have HK1 := Lib.hid (show Below W6.heap.size W6 wx from below_step (below_drew1 (Below.refl _ _)) hb))) | (go_at_call 40; (with_reducible refine (HMX2.out _).mono ?_); rintro e wx ⟨rfl, hb⟩; first | (have HK1 := Lib.hid (below_step HK1.out hb)) | (have HK1 := Lib.hid (show Below W6.heap.size W6 wx from below_step (below_drew1 (Below.refl _ _)) hb))))
    all_goals (
      go_wp2
      go_meet
      case rel => exact ⟨rfl, rfl, HK1.out⟩)
  case rest =>
    obtain ⟨rfl, rfl, HBc⟩ := hcut
    clear hss HSTS HMN2 HMX2
    have HST7 := Lib.hid (HST6.out.below HBc.out)
    have HRS7 := Lib.hid (HRS6.out.below HBc.out)
    have HOT7 := Lib.hid (HOT6.out.below HBc.out)
    have HB7 := Lib.hid (below_step HB6.out HBc.out)
    clear HBc HST6 HRS6 HOT6 HB6
    have c9 := HST7.out.cell HS.out 9 (by omega)
    have c10 := HST7.out.cell HS.out 10 (by omega)
    have e9 : ∀ W, Calls Try.prog 22 #[.agg #[.int .i64 (f 9), .int .i64 (f 10)], .int .i64 base] W fun e w' => e = .returned (.tuple #[.int .i64 (sideN (f 9) (f 10) base), .bool (sideB (f 9))]) ∧ Below W.heap.size W w' := fun W => side_calls _ _ _ W
    have HE9 := Lib.hid e9
    clear e9
    go_upto_region 8 with (go_at_call 22; (with_reducible refine (HE9.out _).mono ?_); rintro e W8 ⟨rfl, hb⟩; have HRS8 := Lib.hid (HRS7.out.below hb); have HOT8 := Lib.hid (HOT7.out.below hb); have HB8 := Lib.hid (below_step HB7.out hb); clear hb)
    clear c9 c10 HST7 HRS7 HOT7 HB7 HE9
    obtain ⟨z0, hz0⟩ : ∃ z0, w0N f base = z0 := ⟨_, rfl⟩
    obtain ⟨zw, hzw⟩ : ∃ zw, wN f base = zw := ⟨_, rfl⟩
    have HZ0 := Lib.hid hz0; have HZW := Lib.hid hzw
    have HCL : Hid (∀ W, Calls Try.prog 41 #[.int .i64 z0, .int .i64 least, .int .i64 most] W fun e w' => e = .returned (.int .i64 zw) ∧ W = w') := fun W => by
      have := clamp_calls z0 least most W
      have e : clampN z0 least most = zw := by rw [← hzw, ← hz0, ← HLEAST.out, ← HMOST.out]; rfl
      rw [e] at this
      exact this
    have bz := HBD.out.w0
    rw [hz0] at bz
    obtain ⟨bz0, bz1⟩ := bz
    have bw := HBD.out.w
    rw [hzw] at bw
    obtain ⟨bw0, bw1⟩ := bw
    clear hz0 hzw
    cases hT : sideB (f 9)
    · have HT := Lib.hid hT
      have hz2 : base - ml - mr - L - R = z0 := by
        have e := HZ0.out
        unfold w0N at e
        rw [if_neg (by rw [hT]; exact Bool.false_ne_true), HML.out, HMR.out, HL.out, HR.out] at e
        exact e
      clear hT
      obtain ⟨o0, o1, o2, of⟩ := HOT8.out.cells
      have of1 := of 1
      clear of
      go_upto_region 11 with (go_at_call 41; (with_reducible refine (HCL.out _).mono ?_); rintro e W9 ⟨rfl, rfl⟩)
      have HB10 := Lib.hid (HB8.out.setCell (p := ⟨g2, 1, none⟩) HGE.out (.int .i64 zw))
      have HRS10 := Lib.hid (HRS8.out.far (p := ⟨g2, 1, none⟩) HNE.out.2 (.int .i64 zw))
      have HOT10 := Lib.hid (HOT8.out.set1 zw)
      clear HB8 HRS8 HOT8 o0 o1 o2 of1 HCL
      generalize W8.setCell ⟨g2, 1, none⟩ (.int .i64 zw) = W10 at *
      obtain ⟨o0, o1, o2, of⟩ := HOT10.out.cells
      obtain ⟨r0, r1, r2, rf⟩ := HRS10.out.cells
      have rf0 := rf 0
      have rf1 := rf 1
      have rf2 := rf 2
      clear of rf
      by_cases hq : zw = z0
      · have hq2 : (zw == z0) = true := by simp [hq]
        have HV := Lib.hid (show widthV f base = .agg #[.int .i64 ml, .int .i64 zw, .int .i64 mr] from by
          unfold widthV
          rw [if_pos ⟨HT.out, by rw [HZW.out, HZ0.out]; exact hq⟩, HML.out, HZW.out, HMR.out])
        clear hq
        go_wp2
        have HBF := Lib.hid (((HB10.out.setCell (p := ⟨w.heap.size + 1, 0, none⟩) (Nat.le_succ _) (.int .i64 ml)).setCell (p := ⟨w.heap.size + 1, 1, none⟩) (Nat.le_succ _) (.int .i64 zw)).setCell (p := ⟨w.heap.size + 1, 2, none⟩) (Nat.le_succ _) (.int .i64 mr))
        obtain ⟨f0, f1, f2, _⟩ := (((HRS10.out.set0 ml).set1 zw).set2 mr).cells
        clear o0 o1 o2 r0 r1 r2 rf0 rf1 rf2
        generalize ((W10.setCell ⟨w.heap.size + 1, 0, none⟩ (.int .i64 ml)).setCell ⟨w.heap.size + 1, 1, none⟩ (.int .i64 zw)).setCell ⟨w.heap.size + 1, 2, none⟩ (.int .i64 mr) = WF at *
        exact bodyPost_ret (v := .agg #[.int .i64 ml, .int .i64 zw, .int .i64 mr]) (by simp [results, Try.results13, go_sem, f0, f1, f2]) rfl ⟨by rw [HV.out], HBF.out⟩
      · have hq2 : (zw == z0) = false := by simp [hq]
        have HQ : Hid (¬ (sideB (f 9) = false ∧ wN f base = w0N f base)) := fun h => hq (by rw [← HZW.out, ← HZ0.out]; exact h.2)
        clear hq
        obtain ⟨ov, hov⟩ : ∃ ov, overN f base = ov := ⟨_, rfl⟩
        have hov2 : base - zw - L - R - ml - mr = ov := by have e := hov; unfold overN at e; rw [HZW.out, HL.out, HR.out, HML.out, HMR.out] at e; exact e
        obtain ⟨ra, rb, rc, hrr⟩ := shared_agg ml zw mr ov (!tl) (!tr)
        have HV := Lib.hid (show widthV f base = .agg #[.int .i64 ra, .int .i64 rb, .int .i64 rc] from by
          unfold widthV
          rw [if_neg HQ.out, HML.out, HZW.out, HMR.out, hov, HTL.out, HTR.out]; exact hrr)
        have HSH := Lib.hid (fun W => shared_calls ml zw mr ov (!tl) (!tr) ⟨bml0, bml1⟩ ⟨bmr0, bmr1⟩ (by rw [← hov]; exact HBD.out.over.1) (by rw [← hov]; exact HBD.out.over.2) W)
        rw [hrr] at HSH
        clear hov hrr
        go_upto_region 13 with (fail)
        go_wp2_with (go_at_call 42; (with_reducible refine (HSH.out _).mono ?_); rintro e W11 ⟨rfl, hb⟩; have HB11 := Lib.hid (below_step HB10.out hb); have HRS11 := Lib.hid (HRS10.out.below hb); clear hb r0 r1 r2 rf0 rf1 rf2; obtain ⟨r0, r1, r2, rf⟩ := HRS11.out.cells; have rf0 := rf 0; have rf1 := rf 1; have rf2 := rf 2; clear rf)
        have HBF := Lib.hid (((HB11.out.setCell (p := ⟨w.heap.size + 1, 0, none⟩) (Nat.le_succ _) (.int .i64 ra)).setCell (p := ⟨w.heap.size + 1, 1, none⟩) (Nat.le_succ _) (.int .i64 rb)).setCell (p := ⟨w.heap.size + 1, 2, none⟩) (Nat.le_succ _) (.int .i64 rc))
        obtain ⟨f0, f1, f2, _⟩ := (((HRS11.out.set0 ra).set1 rb).set2 rc).cells
        clear o0 o1 o2 r0 r1 r2 rf0 rf1 rf2
        generalize ((W11.setCell ⟨w.heap.size + 1, 0, none⟩ (.int .i64 ra)).setCell ⟨w.heap.size + 1, 1, none⟩ (.int .i64 rb)).setCell ⟨w.heap.size + 1, 2, none⟩ (.int .i64 rc) = WF at *
        exact bodyPost_ret (v := .agg #[.int .i64 ra, .int .i64 rb, .int .i64 rc]) (by simp [results, Try.results13, go_sem, f0, f1, f2]) rfl ⟨by rw [HV.out], HBF.out⟩
    · have HT := Lib.hid hT
      have hz2 : sideN (f 9) (f 10) base = z0 := by
        have e := HZ0.out
        unfold w0N at e
        rw [if_pos hT] at e
        exact e
      rw [hz2]
      clear hT hz2
      have HQ : Hid (¬ (sideB (f 9) = false ∧ wN f base = w0N f base)) := fun h => by rw [HT.out] at h; cases h.1
      obtain ⟨o0, o1, o2, of⟩ := HOT8.out.cells
      have of1 := of 1
      clear of
      go_upto_region 11 with (go_at_call 41; (with_reducible refine (HCL.out _).mono ?_); rintro e W9 ⟨rfl, rfl⟩)
      have HB10 := Lib.hid (HB8.out.setCell (p := ⟨g2, 1, none⟩) HGE.out (.int .i64 zw))
      have HRS10 := Lib.hid (HRS8.out.far (p := ⟨g2, 1, none⟩) HNE.out.2 (.int .i64 zw))
      have HOT10 := Lib.hid (HOT8.out.set1 zw)
      clear HB8 HRS8 HOT8 o0 o1 o2 of1 HCL
      generalize W8.setCell ⟨g2, 1, none⟩ (.int .i64 zw) = W10 at *
      obtain ⟨o0, o1, o2, of⟩ := HOT10.out.cells
      obtain ⟨r0, r1, r2, rf⟩ := HRS10.out.cells
      have rf0 := rf 0
      have rf1 := rf 1
      have rf2 := rf 2
      clear of rf
      obtain ⟨ov, hov⟩ : ∃ ov, overN f base = ov := ⟨_, rfl⟩
      have hov2 : base - zw - L - R - ml - mr = ov := by have e := hov; unfold overN at e; rw [HZW.out, HL.out, HR.out, HML.out, HMR.out] at e; exact e
      obtain ⟨ra, rb, rc, hrr⟩ := shared_agg ml zw mr ov (!tl) (!tr)
      have HV := Lib.hid (show widthV f base = .agg #[.int .i64 ra, .int .i64 rb, .int .i64 rc] from by
        unfold widthV
        rw [if_neg HQ.out, HML.out, HZW.out, HMR.out, hov, HTL.out, HTR.out]; exact hrr)
      have HSH := Lib.hid (fun W => shared_calls ml zw mr ov (!tl) (!tr) ⟨bml0, bml1⟩ ⟨bmr0, bmr1⟩ (by rw [← hov]; exact HBD.out.over.1) (by rw [← hov]; exact HBD.out.over.2) W)
      rw [hrr] at HSH
      clear hov hrr
      go_upto_region 13 with (fail)
      go_wp2_with (go_at_call 42; (with_reducible refine (HSH.out _).mono ?_); rintro e W11 ⟨rfl, hb⟩; have HB11 := Lib.hid (below_step HB10.out hb); have HRS11 := Lib.hid (HRS10.out.below hb); clear hb r0 r1 r2 rf0 rf1 rf2; obtain ⟨r0, r1, r2, rf⟩ := HRS11.out.cells; have rf0 := rf 0; have rf1 := rf 1; have rf2 := rf 2; clear rf)
      have HBF := Lib.hid (((HB11.out.setCell (p := ⟨w.heap.size + 1, 0, none⟩) (Nat.le_succ _) (.int .i64 ra)).setCell (p := ⟨w.heap.size + 1, 1, none⟩) (Nat.le_succ _) (.int .i64 rb)).setCell (p := ⟨w.heap.size + 1, 2, none⟩) (Nat.le_succ _) (.int .i64 rc))
      obtain ⟨f0, f1, f2, _⟩ := (((HRS11.out.set0 ra).set1 rb).set2 rc).cells
      clear o0 o1 o2 r0 r1 r2 rf0 rf1 rf2
      generalize ((W11.setCell ⟨w.heap.size + 1, 0, none⟩ (.int .i64 ra)).setCell ⟨w.heap.size + 1, 1, none⟩ (.int .i64 rb)).setCell ⟨w.heap.size + 1, 2, none⟩ (.int .i64 rc) = WF at *
      exact bodyPost_ret (v := .agg #[.int .i64 ra, .int .i64 rb, .int .i64 rc]) (by simp [results, Try.results13, go_sem, f0, f1, f2]) rfl ⟨by rw [HV.out], HBF.out⟩
end Go.Proofs.Ytlnhhamfmnjapaa
