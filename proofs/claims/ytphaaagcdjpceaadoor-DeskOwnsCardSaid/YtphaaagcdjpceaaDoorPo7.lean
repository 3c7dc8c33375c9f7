/- pool.Take. -/
import Derived.Test.YtphaaagcdjpceaaDoorPo6
namespace Go.Proofs.YtphaaagcdjpceaaDoor
open Go.RowKit Go.Extern.Stop Go.Stop Go.Extern Go.Proofs.YtphaaagcdjpceaaDoorW.PrintWords Go.Proofs.YtphaaagcdjpceaaDoorW.PrintLast Go.Proofs.YtphaaagcdjpceaaDoorW.PrintMore
set_option linter.unusedVariables false
theorem E108 : ∀ q, q ∈ 108 :: k108.E → q = 108 := fun q hq => by simpa [k108, Kd.iso, Kd.pair, Kd.int, Kd.bool, Kd.scalar] using hq
/-- What a run sees of a pool's place, and what a store to it leaves. -/
structure Op_ (W : World) (base g : Nat) (most n : Int) (ps : List S108) (i : Nat) (ad : Addr) (c : Nat) : Prop where
  c0 : W.cell? ⟨g, 0, none⟩ = some (.int .i64 most)
  c1 : W.cell? ⟨g, 1, none⟩ = some (.slice (some ad) ps.length c)
  c2 : W.cell? ⟨g, 2, none⟩ = some (.int .i64 n)
  f2 : W.frozen? ⟨g, 2, none⟩ = false
  x0 : W.cell? (ad.add (i * 2)) = some (.int .i64 (plc ps i).f0)
  x1 : W.cell? ⟨(ad.add (i * 2)).block, (ad.add (i * 2)).off + 1, none⟩ = some (.bool (plc ps i).f1)
  y0 : W.frozen? (ad.add (i * 2)) = false
  y1 : W.frozen? ⟨(ad.add (i * 2)).block, (ad.add (i * 2)).off + 1, none⟩ = false
  putT : ∀ t, PL (W.setCell (ad.add (i * 2)) (.int .i64 t)) base g most (ps.set i ⟨t, (plc ps i).f1⟩) n ∧ Fr base W (W.setCell (ad.add (i * 2)) (.int .i64 t))
  putB : ∀ t, PL (W.setCell ⟨(ad.add (i * 2)).block, (ad.add (i * 2)).off + 1, none⟩ (.bool t)) base g most (ps.set i ⟨(plc ps i).f0, t⟩) n ∧ Fr base W (W.setCell ⟨(ad.add (i * 2)).block, (ad.add (i * 2)).off + 1, none⟩ (.bool t))
  putN : ∀ t, PL (W.setCell ⟨g, 2, none⟩ (.int .i64 t)) base g most ps t ∧ Fr base W (W.setCell ⟨g, 2, none⟩ (.int .i64 t))
theorem PL.op {W : World} {base g : Nat} {most n : Int} {ps : List S108} (h : PL W base g most ps n) (i : Nat) (hi : i < ps.length) : ∃ ad c, Op_ W base g most n ps i ad c := by
  obtain ⟨g0, A, c, h1, h2⟩ := h
  have hbw : base ≤ W.heap.size := by have := blk_lt h1; omega
  obtain ⟨hl, hc, hC⟩ := Kd.R_reads' h2
  obtain ⟨ad, rfl, x0, x1⟩ := at_108 hC i hi
  obtain ⟨gb, rfl, hgb, cur, hcur⟩ := R108_blk h2
  have hne : g ≠ gb := by
    rintro rfl
    have h3 := h1
    rw [hcur] at h3
    injection h3 with h3
    injection h3 with _ h3
    exact absurd h3 (by decide)
  refine ⟨⟨gb, 0, none⟩, c, ?_⟩
  constructor
  · exact (blk_cell h1 0).trans rfl
  · exact (blk_cell h1 1).trans rfl
  · exact (blk_cell h1 2).trans rfl
  · exact blk_frozen h1 2
  · exact x0
  · exact x1
  · rw [add0_]; exact blk_frozen hcur _
  · rw [add0_]; exact blk_frozen hcur _
  · intro t
    rw [add0_]
    exact ⟨⟨g0, _, c, by rw [List.length_set]; exact blk_far (p := ⟨gb, i * 2, none⟩) h1 hne _, by rw [List.length_set]; exact put108 h2 i hi t⟩, (Below.refl base W).setCell (p := ⟨gb, i * 2, none⟩) hgb _, (Keeps.refl _ W).set hcur (by decide) _ _⟩
  · intro t
    rw [add0_]
    exact ⟨⟨g0, _, c, by rw [List.length_set]; exact blk_far (p := ⟨gb, i * 2 + 1, none⟩) h1 hne _, by rw [List.length_set]; exact putb108 h2 i hi t⟩, (Below.refl base W).setCell (p := ⟨gb, i * 2 + 1, none⟩) hgb _, (Keeps.refl _ W).set hcur (by decide) _ _⟩
  · intro t
    exact ⟨⟨g0, _, c, blk_set h1 2 _, Kd.R_set h2 h1 (fun q hq => by rw [E108 q hq]; decide) 2 _⟩, (Below.refl base W).setCell (p := ⟨g, 2, none⟩) g0 _, (Keeps.refl _ W).set h1 (by decide) _ _⟩
theorem info108 : (Tryd.prog.info? 108).map (fun i => (i.zero, i.size, i.bytes)) = some (some (.agg #[.int .i64 0, .bool false]), 2, 16) := by kernel_rfl
/-- A handle's own block. -/
def Hn (W : World) (h : Nat) (p t : Int) : Prop := W.heap[h]? = some (Obj.cells #[.int .i64 p, .int .i64 t] 40 (0, 0))
theorem Hn.fr {W W1 : World} {h base : Nat} {p t : Int} (hn : Hn W h p t) (hf : Fr base W W1) : Hn W1 h p t := (hf.2.2 h _ _ _ hn (by decide)).trans hn
/-- The places ahead of the taking: with one more where all are taken. -/
def grow0 (ps : List S108) (i : Nat) : List S108 := if i < ps.length then ps else ps ++ [⟨0, false⟩]
theorem grow0_lt {ps : List S108} {i : Nat} (hi : i ≤ ps.length) : i < (grow0 ps i).length := by
  unfold grow0
  split
  · assumption
  · simp; omega
/-- The turn that taking place i tells. -/
def turnOf (ps : List S108) (i : Nat) : Int := (plc (grow0 ps i) i).f0 + 1
/-- The places behind the taking. -/
def tookL (ps : List S108) (i : Nat) : List S108 := (grow0 ps i).set i ⟨turnOf ps i, true⟩
theorem Joined.keeps {W W1 : World} {k : Nat} {n : Int} (h : Joined W k n) {T : List Nat} (hk : Keeps T W W1) (ht : 181 ∉ T ∧ 31 ∉ T) : Joined W1 k n := by
  obtain ⟨m, s, h1, h2⟩ := h
  exact ⟨m, s, (hk.2 _ _ _ _ h1 ht.1).trans h1, (hk.2 _ _ _ _ h2 ht.2).trans h2⟩
theorem keeps_app {wr w8 : World} {base : Nat} {v : Value} {xs : List S108} (hr : Kd.R k108 108 wr base (fun _ => True) v xs) (hg : wr.grownBy w8 v.ownBlock) : Keeps [108] wr w8 := ⟨hg.size, fun k cs t fr hk ht => hg.block k (blk_lt hk) (by
  intro he
  obtain ⟨_, inner, ho, _⟩ := hr
  obtain ⟨cells, hc⟩ := own_typed ho k he.symm
  rw [hc] at hk
  injection hk with hk
  injection hk with _ hk
  subst hk
  exact ht (by simp))⟩
theorem Keeps.mono {T T' : List Nat} {W W1 : World} (h : Keeps T W W1) (ht : ∀ q, q ∈ T → q ∈ T') : Keeps T' W W1 := ⟨h.1, fun k cs t fr hk hn => h.2 k cs t fr hk (fun hm => hn (ht t hm))⟩
theorem fr_app {wr w8 : World} {base : Nat} {v : Value} {xs : List S108} (hr : Kd.R k108 108 wr base (fun _ => True) v xs) (hb : base ≤ wr.heap.size) (hg : wr.grownBy w8 v.ownBlock) : Fr base wr w8 :=
  ⟨pw_below_grown (Below.refl base wr) _ hb hg (fun k hk => by
    rcases Kd.R_base2 hr with h | ⟨q, h, hq⟩
    · rw [h] at hk; cases hk
    · rw [h] at hk; injection hk with hk; omega), (keeps_app hr hg).mono (fun q hq => by simp at hq; subst hq; decide)⟩
theorem pl_app {wr w8 : World} {base g c g8 c8 : Nat} {most n : Int} {A : Option Addr} {ps : List S108} (h : wr.heap[g]? = some (Obj.cells #[.int .i64 most, .slice A ps.length c, .int .i64 n] 106 (0, 0))) (g0 : base ≤ g) (hr : Kd.R k108 108 wr base (fun _ => True) (.slice A ps.length c) ps) (hb : base ≤ wr.heap.size) (hg : wr.grownBy w8 (Value.slice A ps.length c).ownBlock)
    (ho : Kd.R k108 108 w8 base (fun _ => True) (.slice (some ⟨g8, 0, none⟩) (ps.length + 1) c8) (ps ++ ([⟨0, false⟩] : List S108))) :
    PL (w8.setCell ⟨g, 1, none⟩ (.slice (some ⟨g8, 0, none⟩) (ps.length + 1) c8)) base g most (ps ++ ([⟨0, false⟩] : List S108)) n ∧ Fr base wr (w8.setCell ⟨g, 1, none⟩ (.slice (some ⟨g8, 0, none⟩) (ps.length + 1) c8)) ∧ w8.cell? ⟨g, 1, none⟩ = some (.slice A ps.length c) ∧ w8.frozen? ⟨g, 1, none⟩ = false := by
  have h8 := ((keeps_app hr hg).2 g _ _ _ h (by decide)).trans h
  have f8 := fr_app hr hb hg
  have e : (ps ++ ([⟨0, false⟩] : List S108)).length = ps.length + 1 := by simp
  exact ⟨⟨g0, _, c8, by rw [e]; exact blk_set h8 1 _, by rw [e]; exact Kd.R_set ho h8 (fun q hq => by rw [E108 q hq]; decide) 1 _⟩, ⟨f8.1.setCell (p := ⟨g, 1, none⟩) g0 _, f8.2.set h8 (by decide) 1 _⟩, (blk_cell h8 1).trans rfl, blk_frozen h8 1⟩
theorem plc_set {ps : List S108} {i : Nat} (h : i < ps.length) (x : S108) : plc (ps.set i x) i = x := by simp [plc, h]
theorem fr_new {W W1 : World} {base : Nat} (h : Fr base W W1) (hb : base ≤ W.heap.size) (u v : Value) : Fr base W ((W1.setCell ⟨W.heap.size, 0, none⟩ u).setCell ⟨W.heap.size, 1, none⟩ v) :=
  ⟨(h.1.setCell (p := ⟨W.heap.size, 0, none⟩) hb _).setCell (p := ⟨W.heap.size, 1, none⟩) hb _, ⟨by rw [World.size_setCell, World.size_setCell]; exact h.2.1, fun k cs t fr hk ht => by
    have hlt := blk_lt hk
    rw [Below.heap_setCell _ ⟨W.heap.size, 1, none⟩ v k (by show k ≠ W.heap.size; omega), Below.heap_setCell _ ⟨W.heap.size, 0, none⟩ u k (by show k ≠ W.heap.size; omega)]
    exact h.2.2 k cs t fr hk ht⟩⟩
set_option maxHeartbeats 4000000 in
set_option maxRecDepth 100000 in
theorem take_ok (g base : Nat) (most n : Int) (ps : List S108) (i : Nat) (w : World) (h : PL w base g most ps n) (hi : i ≤ ps.length) (hf : ∀ j, j < i → (plc ps j).f1 = true) (hf2 : i < ps.length → (plc ps i).f1 = false) (hm : (i : Int) ≠ most) (hl : ps.length ≤ 1000) (ht0 : 0 ≤ turnOf ps i) (ht1 : turnOf ps i ≤ 1000000) (hn0 : -1000000 ≤ n) (hn1 : n ≤ 1000000) :
    Calls Tryd.prog 16 #[.pointer (some ⟨g, 0, none⟩)] w fun e w' => e = .returned (.tuple #[.agg #[.int .i64 (i : Int), .int .i64 (turnOf ps i)], .nilIface]) ∧ PL w' base g most (tookL ps i) (n + 1) ∧ Fr base w w' := by
  have B1 := below_alloc (Below.refl w.heap.size w) (.cells #[.int .i64 0, .int .i64 0] 40)
  have HHN := Lib.hid (show Hn (w.alloc (.cells #[.int .i64 0, .int .i64 0] 40)) w.heap.size 0 0 from heap_alloc_new w _)
  have HP := Lib.hid (h.below B1)
  have HF := Lib.hid (Fr.of_below B1 h.lt)
  have HM : Hid (((i : Int) == most) = false) := Lib.hid (by simpa using hm)
  have HFT := Lib.hid hf; have HFF := Lib.hid hf2
  have HT0 := Lib.hid ht0; have HT1 := Lib.hid ht1
  have HBW := Lib.hid h.lt
  clear B1 h hm hf hf2 ht0 ht1
  go_enter Tryd.func16, Tryd.ntmps16
  go_wp2_with (fail)
  go_loopg [4] i (fun gk v4 wr => ∃ j : Nat, v4 = .int .i64 (j : Int) ∧ j ≤ i ∧ i - j ≤ gk ∧ Hid (PL wr base g most ps n) ∧ Hid (Fr base w wr) ∧ Hid (Hn wr w.heap.size 0 0))
  case atStart => exact ⟨0, rfl, by omega, by omega, HP.out, HF.out, HHN.out⟩
  case round =>
    obtain ⟨j, rfl, hj, hk, HP1, HF1, HN1⟩ := hrel
    by_cases hlt : j < i
    · obtain ⟨ad, c, op⟩ := HP1.out.op j (by omega)
      have c1 := op.c1
      have x1 := op.x1
      rw [HFT.out j hlt] at x1
      clear op
      have cj : (j : Int) < (ps.length : Int) := by omega
      have cj0 : (0 : Int) ≤ (j : Int) := by omega
      go_wp2
      go_roundg (i - (j + 1))
      case measure => omega
      case rel => exact ⟨j + 1, by simp, by omega, by omega, HP1.out, HF1.out, HN1.out⟩
    · obtain rfl : j = i := by omega
      clear hlt hj hk HP HF HHN
      have HFR : Hid (∃ A c, wr.heap[g]? = some (Obj.cells #[.int .i64 most, .slice A ps.length c, .int .i64 n] 106 (0, 0)) ∧ Kd.R k108 108 wr base (fun _ => True) (.slice A ps.length c) ps ∧ base ≤ g) := by
        obtain ⟨g0, A, c, h1, h2⟩ := HP1.out
        exact ⟨A, c, h1, h2, g0⟩
      have hm := HM.out
      by_cases hlt : j < ps.length
      · obtain ⟨ad, c, op⟩ := HP1.out.op j hlt
        have c0 := op.c0
        have c1 := op.c1
        have x1 := op.x1
        rw [HFF.out hlt] at x1
        have cj : (j : Int) < (ps.length : Int) := by omega
        have cj0 : (0 : Int) ≤ (j : Int) := by omega
        have hel : ((j : Int) == (ps.length : Int)) = false := by
          have : (j : Int) ≠ (ps.length : Int) := by omega
          simpa using this
        clear op
        go_upto_region 8 with (fail)
        have eg : grow0 ps j = ps := if_pos hlt
        have HP7 : Hid (PL wr base g most (grow0 ps j) n) := by rw [eg]; exact HP1.out
        clear c0 c1 x1 cj cj0 hel HP1 HFR hm HM HFT HFF eg
        obtain ⟨ad1, c1', op1⟩ := HP7.out.op j (grow0_lt hi)
        have q1 := op1.c1
        have x0 := op1.x0
        have y0 := op1.y0
        have pt := op1.putT ((plc (grow0 ps j) j).f0 + 1)
        have cj1 : (j : Int) < ((grow0 ps j).length : Int) := by have := (grow0_lt hi); omega
        have cj0' : (0 : Int) ≤ (j : Int) := by omega
        have bt0 : 0 ≤ (plc (grow0 ps j) j).f0 + 1 := HT0.out
        have bt1 : (plc (grow0 ps j) j).f0 + 1 ≤ 1000000 := HT1.out
        have HP8 := Lib.hid pt.1
        have HF8 := Lib.hid (HF1.out.trans pt.2)
        have HN8 := Lib.hid (HN1.out.fr pt.2)
        clear op1 pt
        go_upto_region 9 with (fail)
        clear q1 x0 y0 cj1
        generalize wr.setCell (ad1.add (j * 2)) (.int .i64 ((plc (grow0 ps j) j).f0 + 1)) = W8 at *
        have hl8 : j < ((grow0 ps j).set j ⟨(plc (grow0 ps j) j).f0 + 1, (plc (grow0 ps j) j).f1⟩).length := by rw [List.length_set]; exact (grow0_lt hi)
        have e8 : plc ((grow0 ps j).set j ⟨(plc (grow0 ps j) j).f0 + 1, (plc (grow0 ps j) j).f1⟩) j = ⟨(plc (grow0 ps j) j).f0 + 1, (plc (grow0 ps j) j).f1⟩ := plc_set (grow0_lt hi) _
        have HSS := Lib.hid (show (((grow0 ps j).set j ⟨(plc (grow0 ps j) j).f0 + 1, (plc (grow0 ps j) j).f1⟩).set j ⟨(plc (grow0 ps j) j).f0 + 1, true⟩) = tookL ps j from List.set_set _)
        generalize (grow0 ps j).set j ⟨(plc (grow0 ps j) j).f0 + 1, (plc (grow0 ps j) j).f1⟩ = ps8 at *
        obtain ⟨ad2, c2', op2⟩ := HP8.out.op j hl8
        have q1 := op2.c1
        have x1 := op2.x1
        have y1 := op2.y1
        have pt := op2.putB true
        rw [e8] at pt
        rw [HSS.out] at pt
        have cj1 : (j : Int) < (ps8.length : Int) := by omega
        have HP9 := Lib.hid pt.1
        have HF9 := Lib.hid (HF8.out.trans pt.2)
        have HN9 := Lib.hid (HN8.out.fr pt.2)
        clear op2 pt
        go_upto_region 10 with (fail)
        clear q1 x1 y1 cj1 e8
        generalize W8.setCell ⟨(ad2.add (j * 2)).block, (ad2.add (j * 2)).off + 1, none⟩ (.bool true) = W9 at *
        have hl9 : j < (tookL ps j).length := by unfold tookL; rw [List.length_set]; exact (grow0_lt hi)
        have e9 : plc (tookL ps j) j = ⟨turnOf ps j, true⟩ := plc_set (grow0_lt hi) _
        obtain ⟨ad3, c3', op3⟩ := HP9.out.op j hl9
        have q2 := op3.c2
        have y2 := op3.f2
        have pt := op3.putN (n + 1)
        have HP10 := Lib.hid pt.1
        have HF10 := Lib.hid (HF9.out.trans pt.2)
        have HN10 := Lib.hid (HN9.out.fr pt.2)
        clear op3 pt
        go_upto_region 11 with (fail)
        clear q2 y2
        generalize W9.setCell ⟨g, 2, none⟩ (.int .i64 (n + 1)) = W10 at *
        obtain ⟨ad4, c4', op4⟩ := HP10.out.op j hl9
        have q1 := op4.c1
        have x0 := op4.x0
        rw [e9] at x0
        clear op4
        have cj1 : (j : Int) < ((tookL ps j).length : Int) := by omega
        have z0 := (blk_cell HN10.out 0).trans (show _ = some (Value.int .i64 0) from rfl)
        have z1 := (blk_cell HN10.out 1).trans (show _ = some (Value.int .i64 0) from rfl)
        have u0 : W10.frozen? ⟨w.heap.size, 0, none⟩ = false := blk_frozen HN10.out 0
        have u1 : W10.frozen? ⟨w.heap.size, 1, none⟩ = false := blk_frozen HN10.out 1
        have HB11 : Hid (Below w.heap.size w w) := Below.refl _ _
        have HP11 := Lib.hid (HP10.out.keeps ((((Keeps.refl [40] W10).set HN10.out (by decide) 0 (.int .i64 (j : Int)))).set (blk_set HN10.out 0 _) (by decide) 1 (.int .i64 (turnOf ps j))) ⟨by decide, by decide⟩)
        have HF11 : Hid (Fr base w ((W10.setCell ⟨w.heap.size, 0, none⟩ (.int .i64 (j : Int))).setCell ⟨w.heap.size, 1, none⟩ (.int .i64 (turnOf ps j)))) := fr_new HF10.out HBW.out _ _
        have r0 := (blk_cell (blk_set (blk_set HN10.out 0 (.int .i64 (j : Int))) 1 (.int .i64 (turnOf ps j))) 0).trans (show _ = some (Value.int .i64 (j : Int)) from rfl)
        have r1 := (blk_cell (blk_set (blk_set HN10.out 0 (.int .i64 (j : Int))) 1 (.int .i64 (turnOf ps j))) 1).trans (show _ = some (Value.int .i64 (turnOf ps j)) from rfl)
        go_wp2
        exact bodyPost_ret (v := .tuple #[.agg #[.int .i64 (j : Int), .int .i64 (turnOf ps j)], .nilIface]) (by simp [results, Tryd.results16, go_sem, r0, r1]) rfl ⟨rfl, HP11.out, HF11.out⟩
      · have hjl : j = ps.length := by omega
        obtain ⟨A, c, h1, h2, g0⟩ := HFR.out
        have c0 := (blk_cell h1 0).trans (show _ = some (Value.int .i64 most) from rfl)
        have c1 := (blk_cell h1 1).trans (show _ = some (Value.slice A ps.length c) from rfl)
        have hd : decide ((j : Int) < (ps.length : Int)) = false := decide_eq_false (by omega)
        have hel : ((j : Int) == (ps.length : Int)) = true := by
          have : (j : Int) = (ps.length : Int) := by omega
          simpa using this
        have H1 := Lib.hid h1; have H2 := Lib.hid h2; have HJL := Lib.hid hjl; have HG0 := Lib.hid g0
        have HLT := Lib.hid hlt
        clear h1 h2 hlt hjl g0 HFR HP1
        go_upto_region 7 with (fail)
        go_upto_region 8 with ((with_reducible refine gate_builtin (b := .append) (xs := #[.tmp 49, .tmp 51]) rfl ?_); at_builtin; refine Kd.R_append k108 (w0 := w) base rfl (.tmp 49) (.tmp 51) 104 108 (.agg #[(.int .i64 0), (.bool false)]) 16 rfl Tryd.underlying104 info108 rfl (by decide) (by decide) (.slice A ps.length c) ps ⟨0, false⟩ [.int .i64 0, .bool false] (fun _ => True) (fun _ => False) rfl ?aX ?aP (fun _ hk => hk.elim) ?aF ?aO ?aB ?aS ?aL ?_; (case aX => first | rfl | (go_simp; done) | (go_simp; rfl)); (case aP => exact k108_mkM _ _ _ ⟨0, false⟩); (case aB => exact HF1.out.1); (case aF => exact (fun _ _ => trivial)); (case aO => exact H2.out); (case aS => exact (Nat.le_trans HBW.out HF1.out.1.size)); (case aL => omega); intro v8 w8 ho hb hg hat; obtain ⟨g8, c8, hv, hb8, _, _⟩ := Kd.R_form ho (by simp); rw [show (ps ++ ([⟨0, false⟩] : List S108)).length = ps.length + 1 from by simp] at hv; subst hv; have HA8 := Lib.hid (pl_app H1.out HG0.out H2.out (Nat.le_trans HBW.out HF1.out.1.size) hg ho); have q1 := HA8.out.2.2.1; have y1 := HA8.out.2.2.2; clear ho hb hg hat hb8 c0 c1 hd hel)
        have eg : grow0 ps j = ps ++ [⟨0, false⟩] := if_neg HLT.out
        have HP7 : Hid (PL (w8.setCell ⟨g, 1, none⟩ (.slice (some ⟨g8, 0, none⟩) (ps.length + 1) c8)) base g most (grow0 ps j) n) := by rw [eg]; exact HA8.out.1
        have HF7 : Hid (Fr base w (w8.setCell ⟨g, 1, none⟩ (.slice (some ⟨g8, 0, none⟩) (ps.length + 1) c8))) := HF1.out.trans HA8.out.2.1
        have HN7 : Hid (Hn (w8.setCell ⟨g, 1, none⟩ (.slice (some ⟨g8, 0, none⟩) (ps.length + 1) c8)) w.heap.size 0 0) := HN1.out.fr HA8.out.2.1
        clear q1 y1 HA8 H1 H2 HG0 HLT HJL HF1 HN1 eg hm HM HFT HFF
        generalize w8.setCell ⟨g, 1, none⟩ (.slice (some ⟨g8, 0, none⟩) (ps.length + 1) c8) = W7 at *
        obtain ⟨ad1, c1', op1⟩ := HP7.out.op j (grow0_lt hi)
        have q1 := op1.c1
        have x0 := op1.x0
        have y0 := op1.y0
        have pt := op1.putT ((plc (grow0 ps j) j).f0 + 1)
        have cj1 : (j : Int) < ((grow0 ps j).length : Int) := by have := (grow0_lt hi); omega
        have cj0' : (0 : Int) ≤ (j : Int) := by omega
        have bt0 : 0 ≤ (plc (grow0 ps j) j).f0 + 1 := HT0.out
        have bt1 : (plc (grow0 ps j) j).f0 + 1 ≤ 1000000 := HT1.out
        have HP8 := Lib.hid pt.1
        have HF8 := Lib.hid (HF7.out.trans pt.2)
        have HN8 := Lib.hid (HN7.out.fr pt.2)
        clear op1 pt
        go_upto_region 9 with (fail)
        clear q1 x0 y0 cj1
        generalize W7.setCell (ad1.add (j * 2)) (.int .i64 ((plc (grow0 ps j) j).f0 + 1)) = W8 at *
        have hl8 : j < ((grow0 ps j).set j ⟨(plc (grow0 ps j) j).f0 + 1, (plc (grow0 ps j) j).f1⟩).length := by rw [List.length_set]; exact (grow0_lt hi)
        have e8 : plc ((grow0 ps j).set j ⟨(plc (grow0 ps j) j).f0 + 1, (plc (grow0 ps j) j).f1⟩) j = ⟨(plc (grow0 ps j) j).f0 + 1, (plc (grow0 ps j) j).f1⟩ := plc_set (grow0_lt hi) _
        have HSS := Lib.hid (show (((grow0 ps j).set j ⟨(plc (grow0 ps j) j).f0 + 1, (plc (grow0 ps j) j).f1⟩).set j ⟨(plc (grow0 ps j) j).f0 + 1, true⟩) = tookL ps j from List.set_set _)
        generalize (grow0 ps j).set j ⟨(plc (grow0 ps j) j).f0 + 1, (plc (grow0 ps j) j).f1⟩ = ps8 at *
        obtain ⟨ad2, c2', op2⟩ := HP8.out.op j hl8
        have q1 := op2.c1
        have x1 := op2.x1
        have y1 := op2.y1
        have pt := op2.putB true
        rw [e8] at pt
        rw [HSS.out] at pt
        have cj1 : (j : Int) < (ps8.length : Int) := by omega
        have HP9 := Lib.hid pt.1
        have HF9 := Lib.hid (HF8.out.trans pt.2)
        have HN9 := Lib.hid (HN8.out.fr pt.2)
        clear op2 pt
        go_upto_region 10 with (fail)
        clear q1 x1 y1 cj1 e8
        generalize W8.setCell ⟨(ad2.add (j * 2)).block, (ad2.add (j * 2)).off + 1, none⟩ (.bool true) = W9 at *
        have hl9 : j < (tookL ps j).length := by unfold tookL; rw [List.length_set]; exact (grow0_lt hi)
        have e9 : plc (tookL ps j) j = ⟨turnOf ps j, true⟩ := plc_set (grow0_lt hi) _
        obtain ⟨ad3, c3', op3⟩ := HP9.out.op j hl9
        have q2 := op3.c2
        have y2 := op3.f2
        have pt := op3.putN (n + 1)
        have HP10 := Lib.hid pt.1
        have HF10 := Lib.hid (HF9.out.trans pt.2)
        have HN10 := Lib.hid (HN9.out.fr pt.2)
        clear op3 pt
        go_upto_region 11 with (fail)
        clear q2 y2
        generalize W9.setCell ⟨g, 2, none⟩ (.int .i64 (n + 1)) = W10 at *
        obtain ⟨ad4, c4', op4⟩ := HP10.out.op j hl9
        have q1 := op4.c1
        have x0 := op4.x0
        rw [e9] at x0
        clear op4
        have cj1 : (j : Int) < ((tookL ps j).length : Int) := by omega
        have z0 := (blk_cell HN10.out 0).trans (show _ = some (Value.int .i64 0) from rfl)
        have z1 := (blk_cell HN10.out 1).trans (show _ = some (Value.int .i64 0) from rfl)
        have u0 : W10.frozen? ⟨w.heap.size, 0, none⟩ = false := blk_frozen HN10.out 0
        have u1 : W10.frozen? ⟨w.heap.size, 1, none⟩ = false := blk_frozen HN10.out 1
        have HB11 : Hid (Below w.heap.size w w) := Below.refl _ _
        have HP11 := Lib.hid (HP10.out.keeps ((((Keeps.refl [40] W10).set HN10.out (by decide) 0 (.int .i64 (j : Int)))).set (blk_set HN10.out 0 _) (by decide) 1 (.int .i64 (turnOf ps j))) ⟨by decide, by decide⟩)
        have HF11 : Hid (Fr base w ((W10.setCell ⟨w.heap.size, 0, none⟩ (.int .i64 (j : Int))).setCell ⟨w.heap.size, 1, none⟩ (.int .i64 (turnOf ps j)))) := fr_new HF10.out HBW.out _ _
        have r0 := (blk_cell (blk_set (blk_set HN10.out 0 (.int .i64 (j : Int))) 1 (.int .i64 (turnOf ps j))) 0).trans (show _ = some (Value.int .i64 (j : Int)) from rfl)
        have r1 := (blk_cell (blk_set (blk_set HN10.out 0 (.int .i64 (j : Int))) 1 (.int .i64 (turnOf ps j))) 1).trans (show _ = some (Value.int .i64 (turnOf ps j)) from rfl)
        go_wp2
        exact bodyPost_ret (v := .tuple #[.agg #[.int .i64 (j : Int), .int .i64 (turnOf ps j)], .nilIface]) (by simp [results, Tryd.results16, go_sem, r0, r1]) rfl ⟨rfl, HP11.out, HF11.out⟩
set_option maxHeartbeats 4000000 in
set_option maxRecDepth 100000 in
theorem take_full (g base : Nat) (n : Int) (ps : List S108) (i : Nat) (w : World) (hG : Good w) (h : PL w base g (i : Int) ps n) (hi : i ≤ ps.length) (hf : ∀ j, j < i → (plc ps j).f1 = true) (hf2 : i < ps.length → (plc ps i).f1 = false) (hl : ps.length ≤ 1000) :
    Calls Tryd.prog 16 #[.pointer (some ⟨g, 0, none⟩)] w fun e w' => ∃ k, e = .returned (.tuple #[.agg #[.int .i64 0, .int .i64 0], .iface 179 (.pointer (some ⟨k, 0, none⟩))]) ∧ Joined w' k 2 ∧ Below w.heap.size w w' := by
  have B1 := below_alloc (Below.refl w.heap.size w) (.cells #[.int .i64 0, .int .i64 0] 40)
  have HHN := Lib.hid (show Hn (w.alloc (.cells #[.int .i64 0, .int .i64 0] 40)) w.heap.size 0 0 from heap_alloc_new w _)
  have HP := Lib.hid (h.below B1)
  have HG := Lib.hid (hG.below B1)
  have HB := Lib.hid B1
  have HFT := Lib.hid hf; have HFF := Lib.hid hf2
  clear B1 h hG hf hf2
  go_enter Tryd.func16, Tryd.ntmps16
  go_wp2_with (fail)
  go_loopg [4] i (fun gk v4 wr => ∃ j : Nat, v4 = .int .i64 (j : Int) ∧ j ≤ i ∧ i - j ≤ gk ∧ Hid (PL wr base g (i : Int) ps n) ∧ Hid (Below w.heap.size w wr) ∧ Hid (Hn wr w.heap.size 0 0) ∧ Hid (Good wr))
  case atStart => exact ⟨0, rfl, by omega, by omega, HP.out, HB.out, HHN.out, HG.out⟩
  case round =>
    obtain ⟨j, rfl, hj, hk, HP1, HB1, HN1, HG1⟩ := hrel
    by_cases hlt : j < i
    · obtain ⟨ad, c, op⟩ := HP1.out.op j (by omega)
      have c1 := op.c1
      have x1 := op.x1
      rw [HFT.out j hlt] at x1
      clear op
      have cj : (j : Int) < (ps.length : Int) := by omega
      have cj0 : (0 : Int) ≤ (j : Int) := by omega
      go_wp2
      go_roundg (i - (j + 1))
      case measure => omega
      case rel => exact ⟨j + 1, by simp, by omega, by omega, HP1.out, HB1.out, HN1.out, HG1.out⟩
    · obtain rfl : j = i := by omega
      clear hlt hj hk HP HB HHN HG
      have HFR : Hid (∃ A c, wr.heap[g]? = some (Obj.cells #[.int .i64 (j : Int), .slice A ps.length c, .int .i64 n] 106 (0, 0)) ∧ Kd.R k108 108 wr base (fun _ => True) (.slice A ps.length c) ps ∧ base ≤ g) := by
        obtain ⟨g0, A, c, h1, h2⟩ := HP1.out
        exact ⟨A, c, h1, h2, g0⟩
      obtain ⟨A, c, h1, h2, g0⟩ := HFR.out
      have c0 := (blk_cell h1 0).trans (show _ = some (Value.int .i64 (j : Int)) from rfl)
      have c1 := (blk_cell h1 1).trans (show _ = some (Value.slice A ps.length c) from rfl)
      have z0 := (blk_cell HN1.out 0).trans (show _ = some (Value.int .i64 0) from rfl)
      have z1 := (blk_cell HN1.out 1).trans (show _ = some (Value.int .i64 0) from rfl)
      have hel : ((j : Int) == (j : Int)) = true := by simp
      by_cases hlt : j < ps.length
      · obtain ⟨ad, rfl, _, x1⟩ := at_108 (Kd.R_reads' h2).2.2 j hlt
        rw [HFF.out hlt] at x1
        have cj : (j : Int) < (ps.length : Int) := by omega
        have cj0 : (0 : Int) ≤ (j : Int) := by omega
        clear h1 h2 g0 HFR
        go_wp2_with (fail)
        go_at_call 52
        (with_reducible refine (itoa2 (j : Int) (by omega) _ HG1.out).mono ?_)
        rintro e w3 ⟨s, rfl, hs, hb⟩
        have hadd : ∀ w, (Op.stringOp .add { data := #[110, 111, 32, 112, 108, 97, 99, 101, 32, 111, 102, 32] } (s : ByteArray)).run Tryd.prog w = .ok (.string ({ data := #[110, 111, 32, 112, 108, 97, 99, 101, 32, 111, 102, 32] } ++ s)) w := fun w => run_string_add_sum w _ _ (by have : (({ data := #[110, 111, 32, 112, 108, 97, 99, 101, 32, 111, 102, 32] } : ByteArray)).size = 12 := rfl; omega)
        have HB3 := Lib.hid (below_step HB1.out hb)
        have HN3 := Lib.hid (blk_below HN1.out hb)
        clear hb c0 c1 hel
        go_wp2_with (fail)
        go_at_call 54
        (with_reducible refine (wrong_calls 2 _ _).mono ?_)
        rintro e w4 ⟨k, rfl, hj, hb⟩
        have HJ := Lib.hid hj
        have HB4 := Lib.hid (below_step HB3.out hb)
        have hn4 := blk_below HN3.out hb
        have z4 := (blk_cell hn4 0).trans (show _ = some (Value.int .i64 0) from rfl)
        have z5 := (blk_cell hn4 1).trans (show _ = some (Value.int .i64 0) from rfl)
        have u0 : w4.frozen? ⟨w.heap.size, 0, none⟩ = false := blk_frozen hn4 0
        have u1 : w4.frozen? ⟨w.heap.size, 1, none⟩ = false := blk_frozen hn4 1
        have HJ5 := Lib.hid (HJ.out.keeps ((((Keeps.refl [40] w4).set hn4 (by decide) 0 (.int .i64 0))).set (blk_set hn4 0 _) (by decide) 1 (.int .i64 0)) ⟨by decide, by decide⟩)
        have HB5 : Hid (Below w.heap.size w ((w4.setCell ⟨w.heap.size, 0, none⟩ (.int .i64 0)).setCell ⟨w.heap.size, 1, none⟩ (.int .i64 0))) := (HB4.out.setCell (p := ⟨w.heap.size, 0, none⟩) (Nat.le_refl _) _).setCell (p := ⟨w.heap.size, 1, none⟩) (Nat.le_refl _) _
        have r0 := (blk_cell (blk_set (blk_set hn4 0 (.int .i64 0)) 1 (.int .i64 0)) 0).trans (show _ = some (Value.int .i64 0) from rfl)
        have r1 := (blk_cell (blk_set (blk_set hn4 0 (.int .i64 0)) 1 (.int .i64 0)) 1).trans (show _ = some (Value.int .i64 0) from rfl)
        clear hb hj hn4
        go_wp2
        exact bodyPost_ret (v := .tuple #[.agg #[.int .i64 0, .int .i64 0], .iface 179 (.pointer (some ⟨k, 0, none⟩))]) (by simp [results, Tryd.results16, go_sem, r0, r1]) rfl ⟨k, rfl, HJ5.out, HB5.out⟩
      · have hd : decide ((j : Int) < (ps.length : Int)) = false := decide_eq_false (by omega)
        clear h1 h2 g0 HFR
        go_wp2_with (fail)
        go_at_call 52
        (with_reducible refine (itoa2 (j : Int) (by omega) _ HG1.out).mono ?_)
        rintro e w3 ⟨s, rfl, hs, hb⟩
        have hadd : ∀ w, (Op.stringOp .add { data := #[110, 111, 32, 112, 108, 97, 99, 101, 32, 111, 102, 32] } (s : ByteArray)).run Tryd.prog w = .ok (.string ({ data := #[110, 111, 32, 112, 108, 97, 99, 101, 32, 111, 102, 32] } ++ s)) w := fun w => run_string_add_sum w _ _ (by have : (({ data := #[110, 111, 32, 112, 108, 97, 99, 101, 32, 111, 102, 32] } : ByteArray)).size = 12 := rfl; omega)
        have HB3 := Lib.hid (below_step HB1.out hb)
        have HN3 := Lib.hid (blk_below HN1.out hb)
        clear hb c0 c1 hel
        go_wp2_with (fail)
        go_at_call 54
        (with_reducible refine (wrong_calls 2 _ _).mono ?_)
        rintro e w4 ⟨k, rfl, hj, hb⟩
        have HJ := Lib.hid hj
        have HB4 := Lib.hid (below_step HB3.out hb)
        have hn4 := blk_below HN3.out hb
        have z4 := (blk_cell hn4 0).trans (show _ = some (Value.int .i64 0) from rfl)
        have z5 := (blk_cell hn4 1).trans (show _ = some (Value.int .i64 0) from rfl)
        have u0 : w4.frozen? ⟨w.heap.size, 0, none⟩ = false := blk_frozen hn4 0
        have u1 : w4.frozen? ⟨w.heap.size, 1, none⟩ = false := blk_frozen hn4 1
        have HJ5 := Lib.hid (HJ.out.keeps ((((Keeps.refl [40] w4).set hn4 (by decide) 0 (.int .i64 0))).set (blk_set hn4 0 _) (by decide) 1 (.int .i64 0)) ⟨by decide, by decide⟩)
        have HB5 : Hid (Below w.heap.size w ((w4.setCell ⟨w.heap.size, 0, none⟩ (.int .i64 0)).setCell ⟨w.heap.size, 1, none⟩ (.int .i64 0))) := (HB4.out.setCell (p := ⟨w.heap.size, 0, none⟩) (Nat.le_refl _) _).setCell (p := ⟨w.heap.size, 1, none⟩) (Nat.le_refl _) _
        have r0 := (blk_cell (blk_set (blk_set hn4 0 (.int .i64 0)) 1 (.int .i64 0)) 0).trans (show _ = some (Value.int .i64 0) from rfl)
        have r1 := (blk_cell (blk_set (blk_set hn4 0 (.int .i64 0)) 1 (.int .i64 0)) 1).trans (show _ = some (Value.int .i64 0) from rfl)
        clear hb hj hn4
        go_wp2
        exact bodyPost_ret (v := .tuple #[.agg #[.int .i64 0, .int .i64 0], .iface 179 (.pointer (some ⟨k, 0, none⟩))]) (by simp [results, Tryd.results16, go_sem, r0, r1]) rfl ⟨k, rfl, HJ5.out, HB5.out⟩
end Go.Proofs.YtphaaagcdjpceaaDoor
