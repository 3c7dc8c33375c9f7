/- The pool's calls leave all blocks but its own two (for desks, which hold many pools). -/
import Derived.Test.YtphaaagcdjpceaaDoorPo9
namespace Go.Proofs.YtphaaagcdjpceaaDoor
open Go.RowKit Go.Extern.Stop Go.Stop Go.Extern Go.Proofs.YtphaaagcdjpceaaDoorW.PrintWords Go.Proofs.YtphaaagcdjpceaaDoorW.PrintLast Go.Proofs.YtphaaagcdjpceaaDoorW.PrintMore
set_option linter.unusedVariables false
/-- The block of a pool's row of places. -/
def abk (W : World) (g : Nat) : Option Nat := match W.cell? ⟨g, 1, none⟩ with
  | some v => v.ownBlock
  | none => none
theorem abk_of {W : World} {g : Nat} {v : Value} (h : W.cell? ⟨g, 1, none⟩ = some v) : abk W g = v.ownBlock := by unfold abk; rw [h]
/-- All blocks but the pool's own stand as they did; its row's block is the same or a new one. -/
def Oth (g : Nat) (W W1 : World) : Prop := (∀ k, k < W.heap.size → k ≠ g → some k ≠ abk W g → W1.heap[k]? = W.heap[k]?) ∧ (abk W1 g = abk W g ∨ ∃ b, abk W1 g = some b ∧ W.heap.size ≤ b)
theorem Oth.of_below {g : Nat} {W W1 : World} (h : Below W.heap.size W W1) (hg : g < W.heap.size) : Oth g W W1 := ⟨fun k hk _ _ => h.block k hk, .inl (by unfold abk; rw [h.cell (p := ⟨g, 1, none⟩) hg])⟩
theorem Oth.trans {g : Nat} {W W1 W2 : World} (h : Oth g W W1) (h2 : Oth g W1 W2) (hs : W.heap.size ≤ W1.heap.size) : Oth g W W2 := by
  refine ⟨fun k hk hg ha => ?_, ?_⟩
  · rw [h2.1 k (by omega) hg (by
      rcases h.2 with e | ⟨b, e, hb⟩
      · rw [e]; exact ha
      · rw [e]; intro he; injection he with he; omega)]
    exact h.1 k hk hg ha
  · rcases h2.2 with e | ⟨b, e, hb⟩
    · rcases h.2 with e2 | ⟨b, e2, hb⟩
      · exact .inl (e.trans e2)
      · exact .inr ⟨b, e.trans e2, hb⟩
    · exact .inr ⟨b, e, by omega⟩
/-- What the pool's own calls leave, to the block. -/
structure Fq (base g : Nat) (W W1 : World) : Prop where
  fr : Fr base W W1
  oth : Oth g W W1
theorem Fq.of_below {base g : Nat} {W W1 : World} (h : Below W.heap.size W W1) (hb : base ≤ W.heap.size) (hg : g < W.heap.size) : Fq base g W W1 := ⟨Fr.of_below h hb, Oth.of_below h hg⟩
theorem Fq.trans {base g : Nat} {W W1 W2 : World} (h : Fq base g W W1) (h2 : Fq base g W1 W2) : Fq base g W W2 := ⟨h.fr.trans h2.fr, h.oth.trans h2.oth h.fr.2.1⟩
theorem Oth.set {g b j : Nat} {W : World} {u : Value} (hb : b = g ∧ j ≠ 1 ∨ b ≠ g ∧ some b = abk W g) : Oth g W (W.setCell ⟨b, j, none⟩ u) := by
  refine ⟨fun k hk hg ha => Below.heap_setCell W ⟨b, j, none⟩ u k (by
    show k ≠ b
    rcases hb with ⟨rfl, _⟩ | ⟨_, hb⟩
    · exact hg
    · intro e; subst e; exact ha hb), .inl ?_⟩
  unfold abk
  have e : (W.setCell ⟨b, j, none⟩ u).cell? ⟨g, 1, none⟩ = W.cell? ⟨g, 1, none⟩ := World.cell?_setCell_other _ _ _ _ (fun h => by
    have h1 := congrArg Addr.block h
    have h2 := congrArg Addr.off h
    simp at h1 h2
    rcases hb with ⟨hb, hj⟩ | ⟨hb, _⟩
    · exact hj h2
    · exact hb h1)
  rw [e]
/-- What a run sees of a pool's place, and what a store to it leaves. -/
structure Oq_ (W : World) (base g : Nat) (most n : Int) (ps : List S108) (i : Nat) (ad : Addr) (c : Nat) : Prop where
  c0 : W.cell? ⟨g, 0, none⟩ = some (.int .i64 most)
  c1 : W.cell? ⟨g, 1, none⟩ = some (.slice (some ad) ps.length c)
  c2 : W.cell? ⟨g, 2, none⟩ = some (.int .i64 n)
  f2 : W.frozen? ⟨g, 2, none⟩ = false
  x0 : W.cell? (ad.add (i * 2)) = some (.int .i64 (plc ps i).f0)
  x1 : W.cell? ⟨(ad.add (i * 2)).block, (ad.add (i * 2)).off + 1, none⟩ = some (.bool (plc ps i).f1)
  y0 : W.frozen? (ad.add (i * 2)) = false
  y1 : W.frozen? ⟨(ad.add (i * 2)).block, (ad.add (i * 2)).off + 1, none⟩ = false
  putT : ∀ t, PL (W.setCell (ad.add (i * 2)) (.int .i64 t)) base g most (ps.set i ⟨t, (plc ps i).f1⟩) n ∧ Fq base g W (W.setCell (ad.add (i * 2)) (.int .i64 t))
  putB : ∀ t, PL (W.setCell ⟨(ad.add (i * 2)).block, (ad.add (i * 2)).off + 1, none⟩ (.bool t)) base g most (ps.set i ⟨(plc ps i).f0, t⟩) n ∧ Fq base g W (W.setCell ⟨(ad.add (i * 2)).block, (ad.add (i * 2)).off + 1, none⟩ (.bool t))
  putN : ∀ t, PL (W.setCell ⟨g, 2, none⟩ (.int .i64 t)) base g most ps t ∧ Fq base g W (W.setCell ⟨g, 2, none⟩ (.int .i64 t))
theorem PL.oq {W : World} {base g : Nat} {most n : Int} {ps : List S108} (h : PL W base g most ps n) (i : Nat) (hi : i < ps.length) : ∃ ad c, Oq_ W base g most n ps i ad c := by
  obtain ⟨g0, A, c, h1, h2⟩ := h
  have hbw : base ≤ W.heap.size := by have := blk_lt h1; omega
  obtain ⟨hl, hc, hC⟩ := Kd.R_reads' h2
  obtain ⟨ad, rfl, x0, x1⟩ := at_108 hC i hi
  obtain ⟨gb, rfl, hgb, cur, hcur⟩ := R108_blk h2
  have hne : g ≠ gb := by
    rintro rfl
    have h3 := h1
    rw [hcur] at h3
    injection h3 with h3
    injection h3 with _ h3
    exact absurd h3 (by decide)
  have hab : some gb = abk W g := (abk_of ((blk_cell h1 1).trans rfl)).symm
  refine ⟨⟨gb, 0, none⟩, c, ?_⟩
  constructor
  · exact (blk_cell h1 0).trans rfl
  · exact (blk_cell h1 1).trans rfl
  · exact (blk_cell h1 2).trans rfl
  · exact blk_frozen h1 2
  · exact x0
  · exact x1
  · rw [add0_]; exact blk_frozen hcur _
  · rw [add0_]; exact blk_frozen hcur _
  · intro t
    rw [add0_]
    exact ⟨⟨g0, _, c, by rw [List.length_set]; exact blk_far (p := ⟨gb, i * 2, none⟩) h1 hne _, by rw [List.length_set]; exact put108 h2 i hi t⟩, ⟨(Below.refl base W).setCell (p := ⟨gb, i * 2, none⟩) hgb _, (Keeps.refl _ W).set hcur (by decide) _ _⟩, Oth.set (.inr ⟨fun e => hne e.symm, hab⟩)⟩
  · intro t
    rw [add0_]
    exact ⟨⟨g0, _, c, by rw [List.length_set]; exact blk_far (p := ⟨gb, i * 2 + 1, none⟩) h1 hne _, by rw [List.length_set]; exact putb108 h2 i hi t⟩, ⟨(Below.refl base W).setCell (p := ⟨gb, i * 2 + 1, none⟩) hgb _, (Keeps.refl _ W).set hcur (by decide) _ _⟩, Oth.set (.inr ⟨fun e => hne e.symm, hab⟩)⟩
  · intro t
    exact ⟨⟨g0, _, c, blk_set h1 2 _, Kd.R_set h2 h1 (fun q hq => by rw [E108 q hq]; decide) 2 _⟩, ⟨(Below.refl base W).setCell (p := ⟨g, 2, none⟩) g0 _, (Keeps.refl _ W).set h1 (by decide) _ _⟩, Oth.set (.inl ⟨rfl, by decide⟩)⟩
theorem PL.glt {W : World} {base g : Nat} {most n : Int} {ps : List S108} (h : PL W base g most ps n) : g < W.heap.size := by
  obtain ⟨_, A, c, h1, _⟩ := h
  exact blk_lt h1
theorem fq_new {W W1 : World} {base g : Nat} (h : Fq base g W W1) (hb : base ≤ W.heap.size) (hg : g < W.heap.size) (u v : Value) : Fq base g W ((W1.setCell ⟨W.heap.size, 0, none⟩ u).setCell ⟨W.heap.size, 1, none⟩ v) :=
  ⟨fr_new h.fr hb u v, ⟨fun k hk hkg ha => by
    rw [Below.heap_setCell _ ⟨W.heap.size, 1, none⟩ v k (by show k ≠ W.heap.size; omega), Below.heap_setCell _ ⟨W.heap.size, 0, none⟩ u k (by show k ≠ W.heap.size; omega)]
    exact h.oth.1 k hk hkg ha, by
    have e : abk ((W1.setCell ⟨W.heap.size, 0, none⟩ u).setCell ⟨W.heap.size, 1, none⟩ v) g = abk W1 g := by
      unfold abk
      rw [World.cell?_setCell_far _ _ _ _ (by show W.heap.size ≠ g; omega), World.cell?_setCell_far _ _ _ _ (by show W.heap.size ≠ g; omega)]
    rw [e]; exact h.oth.2⟩⟩
theorem fq_app {wr w8 : World} {base g c g8 c8 : Nat} {most n : Int} {A : Option Addr} {ps : List S108} (h : wr.heap[g]? = some (Obj.cells #[.int .i64 most, .slice A ps.length c, .int .i64 n] 106 (0, 0))) (hr : Kd.R k108 108 wr base (fun _ => True) (.slice A ps.length c) ps) (hg : wr.grownBy w8 (Value.slice A ps.length c).ownBlock)
    (hf : Fr base wr (w8.setCell ⟨g, 1, none⟩ (.slice (some ⟨g8, 0, none⟩) (ps.length + 1) c8))) (hat : (Value.slice (some ⟨g8, 0, none⟩) (ps.length + 1) c8).ownBlock = (Value.slice A ps.length c).ownBlock ∨ ∃ b, (Value.slice (some ⟨g8, 0, none⟩) (ps.length + 1) c8).ownBlock = some b ∧ wr.heap.size ≤ b) :
    Fq base g wr (w8.setCell ⟨g, 1, none⟩ (.slice (some ⟨g8, 0, none⟩) (ps.length + 1) c8)) := by
  have ha : abk wr g = (Value.slice A ps.length c).ownBlock := abk_of ((blk_cell h 1).trans rfl)
  have h8 := ((keeps_app hr hg).2 g _ _ _ h (by decide)).trans h
  have ha8 : abk (w8.setCell ⟨g, 1, none⟩ (.slice (some ⟨g8, 0, none⟩) (ps.length + 1) c8)) g = (Value.slice (some ⟨g8, 0, none⟩) (ps.length + 1) c8).ownBlock := abk_of ((blk_cell (blk_set h8 1 _) 1).trans rfl)
  refine ⟨hf, ⟨fun k hk hkg hne => ?_, ?_⟩⟩
  · rw [Below.heap_setCell _ ⟨g, 1, none⟩ _ k hkg]
    exact hg.block k hk (by rw [← ha]; exact hne)
  · rw [ha8, ha]; exact hat
set_option maxHeartbeats 4000000 in
set_option maxRecDepth 100000 in
theorem take_oq (g base : Nat) (most n : Int) (ps : List S108) (i : Nat) (w : World) (h : PL w base g most ps n) (hi : i ≤ ps.length) (hf : ∀ j, j < i → (plc ps j).f1 = true) (hf2 : i < ps.length → (plc ps i).f1 = false) (hm : (i : Int) ≠ most) (hl : ps.length ≤ 1000) (ht0 : 0 ≤ turnOf ps i) (ht1 : turnOf ps i ≤ 1000000) (hn0 : -1000000 ≤ n) (hn1 : n ≤ 1000000) :
    Calls Tryd.prog 16 #[.pointer (some ⟨g, 0, none⟩)] w fun e w' => e = .returned (.tuple #[.agg #[.int .i64 (i : Int), .int .i64 (turnOf ps i)], .nilIface]) ∧ PL w' base g most (tookL ps i) (n + 1) ∧ Fq base g w w' := by
  have B1 := below_alloc (Below.refl w.heap.size w) (.cells #[.int .i64 0, .int .i64 0] 40)
  have HHN := Lib.hid (show Hn (w.alloc (.cells #[.int .i64 0, .int .i64 0] 40)) w.heap.size 0 0 from heap_alloc_new w _)
  have HP := Lib.hid (h.below B1)
  have HF := Lib.hid (Fq.of_below B1 h.lt h.glt)
  have HM : Hid (((i : Int) == most) = false) := Lib.hid (by simpa using hm)
  have HFT := Lib.hid hf; have HFF := Lib.hid hf2
  have HT0 := Lib.hid ht0; have HT1 := Lib.hid ht1
  have HBW := Lib.hid h.lt
  have HGW := Lib.hid h.glt
  clear B1 h hm hf hf2 ht0 ht1
  go_enter Tryd.func16, Tryd.ntmps16
  go_wp2_with (fail)
  go_loopg [4] i (fun gk v4 wr => ∃ j : Nat, v4 = .int .i64 (j : Int) ∧ j ≤ i ∧ i - j ≤ gk ∧ Hid (PL wr base g most ps n) ∧ Hid (Fq base g w wr) ∧ Hid (Hn wr w.heap.size 0 0))
  case atStart => exact ⟨0, rfl, by omega, by omega, HP.out, HF.out, HHN.out⟩
  case round =>
    obtain ⟨j, rfl, hj, hk, HP1, HF1, HN1⟩ := hrel
    by_cases hlt : j < i
    · obtain ⟨ad, c, op⟩ := HP1.out.oq j (by omega)
      have c1 := op.c1
      have x1 := op.x1
      rw [HFT.out j hlt] at x1
      clear op
      have cj : (j : Int) < (ps.length : Int) := by omega
      have cj0 : (0 : Int) ≤ (j : Int) := by omega
      go_wp2
      go_roundg (i - (j + 1))
      case measure => omega
      case rel => exact ⟨j + 1, by simp, by omega, by omega, HP1.out, HF1.out, HN1.out⟩
    · obtain rfl : j = i := by omega
      clear hlt hj hk HP HF HHN
      have HFR : Hid (∃ A c, wr.heap[g]? = some (Obj.cells #[.int .i64 most, .slice A ps.length c, .int .i64 n] 106 (0, 0)) ∧ Kd.R k108 108 wr base (fun _ => True) (.slice A ps.length c) ps ∧ base ≤ g) := by
        obtain ⟨g0, A, c, h1, h2⟩ := HP1.out
        exact ⟨A, c, h1, h2, g0⟩
      have hm := HM.out
      by_cases hlt : j < ps.length
      · obtain ⟨ad, c, op⟩ := HP1.out.oq j hlt
        have c0 := op.c0
        have c1 := op.c1
        have x1 := op.x1
        rw [HFF.out hlt] at x1
        have cj : (j : Int) < (ps.length : Int) := by omega
        have cj0 : (0 : Int) ≤ (j : Int) := by omega
        have hel : ((j : Int) == (ps.length : Int)) = false := by
          have : (j : Int) ≠ (ps.length : Int) := by omega
          simpa using this
        clear op
        go_upto_region 8 with (fail)
        have eg : grow0 ps j = ps := if_pos hlt
        have HP7 : Hid (PL wr base g most (grow0 ps j) n) := by rw [eg]; exact HP1.out
        clear c0 c1 x1 cj cj0 hel HP1 HFR hm HM HFT HFF eg
        obtain ⟨ad1, c1', op1⟩ := HP7.out.oq j (grow0_lt hi)
        have q1 := op1.c1
        have x0 := op1.x0
        have y0 := op1.y0
        have pt := op1.putT ((plc (grow0 ps j) j).f0 + 1)
        have cj1 : (j : Int) < ((grow0 ps j).length : Int) := by have := (grow0_lt hi); omega
        have cj0' : (0 : Int) ≤ (j : Int) := by omega
        have bt0 : 0 ≤ (plc (grow0 ps j) j).f0 + 1 := HT0.out
        have bt1 : (plc (grow0 ps j) j).f0 + 1 ≤ 1000000 := HT1.out
        have HP8 := Lib.hid pt.1
        have HF8 := Lib.hid (HF1.out.trans pt.2)
        have HN8 := Lib.hid (HN1.out.fr pt.2.fr)
        clear op1 pt
        go_upto_region 9 with (fail)
        clear q1 x0 y0 cj1
        generalize wr.setCell (ad1.add (j * 2)) (.int .i64 ((plc (grow0 ps j) j).f0 + 1)) = W8 at *
        have hl8 : j < ((grow0 ps j).set j ⟨(plc (grow0 ps j) j).f0 + 1, (plc (grow0 ps j) j).f1⟩).length := by rw [List.length_set]; exact (grow0_lt hi)
        have e8 : plc ((grow0 ps j).set j ⟨(plc (grow0 ps j) j).f0 + 1, (plc (grow0 ps j) j).f1⟩) j = ⟨(plc (grow0 ps j) j).f0 + 1, (plc (grow0 ps j) j).f1⟩ := plc_set (grow0_lt hi) _
        have HSS := Lib.hid (show (((grow0 ps j).set j ⟨(plc (grow0 ps j) j).f0 + 1, (plc (grow0 ps j) j).f1⟩).set j ⟨(plc (grow0 ps j) j).f0 + 1, true⟩) = tookL ps j from List.set_set _)
        generalize (grow0 ps j).set j ⟨(plc (grow0 ps j) j).f0 + 1, (plc (grow0 ps j) j).f1⟩ = ps8 at *
        obtain ⟨ad2, c2', op2⟩ := HP8.out.oq j hl8
        have q1 := op2.c1
        have x1 := op2.x1
        have y1 := op2.y1
        have pt := op2.putB true
        rw [e8] at pt
        rw [HSS.out] at pt
        have cj1 : (j : Int) < (ps8.length : Int) := by omega
        have HP9 := Lib.hid pt.1
        have HF9 := Lib.hid (HF8.out.trans pt.2)
        have HN9 := Lib.hid (HN8.out.fr pt.2.fr)
        clear op2 pt
        go_upto_region 10 with (fail)
        clear q1 x1 y1 cj1 e8
        generalize W8.setCell ⟨(ad2.add (j * 2)).block, (ad2.add (j * 2)).off + 1, none⟩ (.bool true) = W9 at *
        have hl9 : j < (tookL ps j).length := by unfold tookL; rw [List.length_set]; exact (grow0_lt hi)
        have e9 : plc (tookL ps j) j = ⟨turnOf ps j, true⟩ := plc_set (grow0_lt hi) _
        obtain ⟨ad3, c3', op3⟩ := HP9.out.oq j hl9
        have q2 := op3.c2
        have y2 := op3.f2
        have pt := op3.putN (n + 1)
        have HP10 := Lib.hid pt.1
        have HF10 := Lib.hid (HF9.out.trans pt.2)
        have HN10 := Lib.hid (HN9.out.fr pt.2.fr)
        clear op3 pt
        go_upto_region 11 with (fail)
        clear q2 y2
        generalize W9.setCell ⟨g, 2, none⟩ (.int .i64 (n + 1)) = W10 at *
        obtain ⟨ad4, c4', op4⟩ := HP10.out.oq j hl9
        have q1 := op4.c1
        have x0 := op4.x0
        rw [e9] at x0
        clear op4
        have cj1 : (j : Int) < ((tookL ps j).length : Int) := by omega
        have z0 := (blk_cell HN10.out 0).trans (show _ = some (Value.int .i64 0) from rfl)
        have z1 := (blk_cell HN10.out 1).trans (show _ = some (Value.int .i64 0) from rfl)
        have u0 : W10.frozen? ⟨w.heap.size, 0, none⟩ = false := blk_frozen HN10.out 0
        have u1 : W10.frozen? ⟨w.heap.size, 1, none⟩ = false := blk_frozen HN10.out 1
        have HB11 : Hid (Below w.heap.size w w) := Below.refl _ _
        have HP11 := Lib.hid (HP10.out.keeps ((((Keeps.refl [40] W10).set HN10.out (by decide) 0 (.int .i64 (j : Int)))).set (blk_set HN10.out 0 _) (by decide) 1 (.int .i64 (turnOf ps j))) ⟨by decide, by decide⟩)
        have HF11 : Hid (Fq base g w ((W10.setCell ⟨w.heap.size, 0, none⟩ (.int .i64 (j : Int))).setCell ⟨w.heap.size, 1, none⟩ (.int .i64 (turnOf ps j)))) := fq_new HF10.out HBW.out HGW.out _ _
        have r0 := (blk_cell (blk_set (blk_set HN10.out 0 (.int .i64 (j : Int))) 1 (.int .i64 (turnOf ps j))) 0).trans (show _ = some (Value.int .i64 (j : Int)) from rfl)
        have r1 := (blk_cell (blk_set (blk_set HN10.out 0 (.int .i64 (j : Int))) 1 (.int .i64 (turnOf ps j))) 1).trans (show _ = some (Value.int .i64 (turnOf ps j)) from rfl)
        go_wp2
        exact bodyPost_ret (v := .tuple #[.agg #[.int .i64 (j : Int), .int .i64 (turnOf ps j)], .nilIface]) (by simp [results, Tryd.results16, go_sem, r0, r1]) rfl ⟨rfl, HP11.out, HF11.out⟩
      · have hjl : j = ps.length := by omega
        obtain ⟨A, c, h1, h2, g0⟩ := HFR.out
        have c0 := (blk_cell h1 0).trans (show _ = some (Value.int .i64 most) from rfl)
        have c1 := (blk_cell h1 1).trans (show _ = some (Value.slice A ps.length c) from rfl)
        have hd : decide ((j : Int) < (ps.length : Int)) = false := decide_eq_false (by omega)
        have hel : ((j : Int) == (ps.length : Int)) = true := by
          have : (j : Int) = (ps.length : Int) := by omega
          simpa using this
        have H1 := Lib.hid h1; have H2 := Lib.hid h2; have HJL := Lib.hid hjl; have HG0 := Lib.hid g0
        have HLT := Lib.hid hlt
        clear h1 h2 hlt hjl g0 HFR HP1
        go_upto_region 7 with (fail)
        go_upto_region 8 with ((with_reducible refine gate_builtin (b := .append) (xs := #[.tmp 49, .tmp 51]) rfl ?_); at_builtin; refine Kd.R_append k108 (w0 := w) base rfl (.tmp 49) (.tmp 51) 104 108 (.agg #[(.int .i64 0), (.bool false)]) 16 rfl Tryd.underlying104 info108 rfl (by decide) (by decide) (.slice A ps.length c) ps ⟨0, false⟩ [.int .i64 0, .bool false] (fun _ => True) (fun _ => False) rfl ?aX ?aP (fun _ hk => hk.elim) ?aF ?aO ?aB ?aS ?aL ?_; (case aX => first | rfl | (go_simp; done) | (go_simp; rfl)); (case aP => exact k108_mkM _ _ _ ⟨0, false⟩); (case aB => exact HF1.out.fr.1); (case aF => exact (fun _ _ => trivial)); (case aO => exact H2.out); (case aS => exact (Nat.le_trans HBW.out HF1.out.fr.1.size)); (case aL => omega); intro v8 w8 ho hb hg hat; obtain ⟨g8, c8, hv, hb8, _, _⟩ := Kd.R_form ho (by simp); have hat8 := hat; rw [show (ps ++ ([⟨0, false⟩] : List S108)).length = ps.length + 1 from by simp] at hv; subst hv; have HA8 := Lib.hid (pl_app H1.out HG0.out H2.out (Nat.le_trans HBW.out HF1.out.fr.1.size) hg ho); have HA9 := Lib.hid (fq_app H1.out H2.out hg HA8.out.2.1 hat8); have q1 := HA8.out.2.2.1; have y1 := HA8.out.2.2.2; clear ho hb hg hat hb8 c0 c1 hd hel)
        have eg : grow0 ps j = ps ++ [⟨0, false⟩] := if_neg HLT.out
        have HP7 : Hid (PL (w8.setCell ⟨g, 1, none⟩ (.slice (some ⟨g8, 0, none⟩) (ps.length + 1) c8)) base g most (grow0 ps j) n) := by rw [eg]; exact HA8.out.1
        have HF7 : Hid (Fq base g w (w8.setCell ⟨g, 1, none⟩ (.slice (some ⟨g8, 0, none⟩) (ps.length + 1) c8))) := HF1.out.trans HA9.out
        have HN7 : Hid (Hn (w8.setCell ⟨g, 1, none⟩ (.slice (some ⟨g8, 0, none⟩) (ps.length + 1) c8)) w.heap.size 0 0) := HN1.out.fr HA9.out.fr
        clear q1 y1 HA8 H1 H2 HG0 HLT HJL HF1 HN1 eg hm HM HFT HFF
        generalize w8.setCell ⟨g, 1, none⟩ (.slice (some ⟨g8, 0, none⟩) (ps.length + 1) c8) = W7 at *
        obtain ⟨ad1, c1', op1⟩ := HP7.out.oq j (grow0_lt hi)
        have q1 := op1.c1
        have x0 := op1.x0
        have y0 := op1.y0
        have pt := op1.putT ((plc (grow0 ps j) j).f0 + 1)
        have cj1 : (j : Int) < ((grow0 ps j).length : Int) := by have := (grow0_lt hi); omega
        have cj0' : (0 : Int) ≤ (j : Int) := by omega
        have bt0 : 0 ≤ (plc (grow0 ps j) j).f0 + 1 := HT0.out
        have bt1 : (plc (grow0 ps j) j).f0 + 1 ≤ 1000000 := HT1.out
        have HP8 := Lib.hid pt.1
        have HF8 := Lib.hid (HF7.out.trans pt.2)
        have HN8 := Lib.hid (HN7.out.fr pt.2.fr)
        clear op1 pt
        go_upto_region 9 with (fail)
        clear q1 x0 y0 cj1
        generalize W7.setCell (ad1.add (j * 2)) (.int .i64 ((plc (grow0 ps j) j).f0 + 1)) = W8 at *
        have hl8 : j < ((grow0 ps j).set j ⟨(plc (grow0 ps j) j).f0 + 1, (plc (grow0 ps j) j).f1⟩).length := by rw [List.length_set]; exact (grow0_lt hi)
        have e8 : plc ((grow0 ps j).set j ⟨(plc (grow0 ps j) j).f0 + 1, (plc (grow0 ps j) j).f1⟩) j = ⟨(plc (grow0 ps j) j).f0 + 1, (plc (grow0 ps j) j).f1⟩ := plc_set (grow0_lt hi) _
        have HSS := Lib.hid (show (((grow0 ps j).set j ⟨(plc (grow0 ps j) j).f0 + 1, (plc (grow0 ps j) j).f1⟩).set j ⟨(plc (grow0 ps j) j).f0 + 1, true⟩) = tookL ps j from List.set_set _)
        generalize (grow0 ps j).set j ⟨(plc (grow0 ps j) j).f0 + 1, (plc (grow0 ps j) j).f1⟩ = ps8 at *
        obtain ⟨ad2, c2', op2⟩ := HP8.out.oq j hl8
        have q1 := op2.c1
        have x1 := op2.x1
        have y1 := op2.y1
        have pt := op2.putB true
        rw [e8] at pt
        rw [HSS.out] at pt
        have cj1 : (j : Int) < (ps8.length : Int) := by omega
        have HP9 := Lib.hid pt.1
        have HF9 := Lib.hid (HF8.out.trans pt.2)
        have HN9 := Lib.hid (HN8.out.fr pt.2.fr)
        clear op2 pt
        go_upto_region 10 with (fail)
        clear q1 x1 y1 cj1 e8
        generalize W8.setCell ⟨(ad2.add (j * 2)).block, (ad2.add (j * 2)).off + 1, none⟩ (.bool true) = W9 at *
        have hl9 : j < (tookL ps j).length := by unfold tookL; rw [List.length_set]; exact (grow0_lt hi)
        have e9 : plc (tookL ps j) j = ⟨turnOf ps j, true⟩ := plc_set (grow0_lt hi) _
        obtain ⟨ad3, c3', op3⟩ := HP9.out.oq j hl9
        have q2 := op3.c2
        have y2 := op3.f2
        have pt := op3.putN (n + 1)
        have HP10 := Lib.hid pt.1
        have HF10 := Lib.hid (HF9.out.trans pt.2)
        have HN10 := Lib.hid (HN9.out.fr pt.2.fr)
        clear op3 pt
        go_upto_region 11 with (fail)
        clear q2 y2
        generalize W9.setCell ⟨g, 2, none⟩ (.int .i64 (n + 1)) = W10 at *
        obtain ⟨ad4, c4', op4⟩ := HP10.out.oq j hl9
        have q1 := op4.c1
        have x0 := op4.x0
        rw [e9] at x0
        clear op4
        have cj1 : (j : Int) < ((tookL ps j).length : Int) := by omega
        have z0 := (blk_cell HN10.out 0).trans (show _ = some (Value.int .i64 0) from rfl)
        have z1 := (blk_cell HN10.out 1).trans (show _ = some (Value.int .i64 0) from rfl)
        have u0 : W10.frozen? ⟨w.heap.size, 0, none⟩ = false := blk_frozen HN10.out 0
        have u1 : W10.frozen? ⟨w.heap.size, 1, none⟩ = false := blk_frozen HN10.out 1
        have HB11 : Hid (Below w.heap.size w w) := Below.refl _ _
        have HP11 := Lib.hid (HP10.out.keeps ((((Keeps.refl [40] W10).set HN10.out (by decide) 0 (.int .i64 (j : Int)))).set (blk_set HN10.out 0 _) (by decide) 1 (.int .i64 (turnOf ps j))) ⟨by decide, by decide⟩)
        have HF11 : Hid (Fq base g w ((W10.setCell ⟨w.heap.size, 0, none⟩ (.int .i64 (j : Int))).setCell ⟨w.heap.size, 1, none⟩ (.int .i64 (turnOf ps j)))) := fq_new HF10.out HBW.out HGW.out _ _
        have r0 := (blk_cell (blk_set (blk_set HN10.out 0 (.int .i64 (j : Int))) 1 (.int .i64 (turnOf ps j))) 0).trans (show _ = some (Value.int .i64 (j : Int)) from rfl)
        have r1 := (blk_cell (blk_set (blk_set HN10.out 0 (.int .i64 (j : Int))) 1 (.int .i64 (turnOf ps j))) 1).trans (show _ = some (Value.int .i64 (turnOf ps j)) from rfl)
        go_wp2
        exact bodyPost_ret (v := .tuple #[.agg #[.int .i64 (j : Int), .int .i64 (turnOf ps j)], .nilIface]) (by simp [results, Tryd.results16, go_sem, r0, r1]) rfl ⟨rfl, HP11.out, HF11.out⟩
set_option maxHeartbeats 4000000 in
set_option maxRecDepth 100000 in
theorem free_oq (g base : Nat) (most n : Int) (ps : List S108) (i : Nat) (t : Int) (w : World) (h : PL w base g most ps n) (hi : i < ps.length) (hh : hasB ps (i : Int) t = true) (hn0 : -1000000 ≤ n) (hn1 : n ≤ 1000000) : Calls Tryd.prog 17 #[.pointer (some ⟨g, 0, none⟩), .agg #[.int .i64 (i : Int), .int .i64 t]] w fun e w' => e = .returned .nilIface ∧ PL w' base g most (ps.set i ⟨(plc ps i).f0, false⟩) (n - 1) ∧ Fq base g w w' := by
  have hbw := h.lt
  have HGW := Lib.hid h.glt
  have B1 := below_alloc (Below.refl w.heap.size w) (.cells #[.int .i64 (i : Int), .int .i64 t] 40)
  have hn := heap_alloc_new w (.cells #[.int .i64 (i : Int), .int .i64 t] 40)
  have HP := Lib.hid (h.below B1)
  have HN := Lib.hid hn
  have HB1 := Lib.hid B1
  have HH := Lib.hid hh
  have HI := Lib.hid hi
  have HBW := Lib.hid hbw
  clear B1 hn h hh hbw
  go_enter Tryd.func17, Tryd.ntmps17
  go_wp2_with (fail)
  go_at_call 22
  (with_reducible refine (has_calls g base most n ps (i : Int) t _ HP.out).mono ?_)
  rintro e w2 ⟨rfl, hb⟩
  rw [HH.out]
  have hn2 := blk_below HN.out hb
  have k0 := (blk_cell hn2 0).trans (show _ = some (Value.int .i64 (i : Int)) from rfl)
  have HP2 := Lib.hid (HP.out.below hb)
  have HB2 := Lib.hid (below_step HB1.out hb)
  clear hb hn2 HP HN HB1 HH
  obtain ⟨g0, A, c, h1, h2⟩ := HP2.out
  obtain ⟨hl, hc, hC⟩ := Kd.R_reads' h2
  obtain ⟨ad, rfl, x0, x1⟩ := at_108 hC i hi
  have c1 := (blk_cell h1 1).trans (show _ = some (Value.slice (some ad) ps.length c) from rfl)
  have c2 := (blk_cell h1 2).trans (show _ = some (Value.int .i64 n) from rfl)
  have f2 : w2.frozen? ⟨g, 2, none⟩ = false := blk_frozen h1 2
  obtain ⟨gb, ead, hgb, cur, hcur⟩ := R108_blk h2
  have fx1 : w2.frozen? ⟨(ad.add (i * 2)).block, (ad.add (i * 2)).off + 1, none⟩ = false := by rw [ead, add0_]; exact blk_frozen hcur _
  have HAB := Lib.hid (show some gb = abk w2 g by rw [abk_of ((blk_cell h1 1).trans rfl), ead]; rfl)
  have HE := Lib.hid ead; have HGB := Lib.hid hgb; have HCU := Lib.hid hcur
  clear ead hgb hcur
  have ci : (i : Int) < (ps.length : Int) := by omega
  have ci0 : (0 : Int) ≤ (i : Int) := by omega
  have HX := Lib.hid (And.intro h1 h2)
  clear h1 h2 hC hl hc
  go_wp2_with (fail)
  go_region
  have e3 : (⟨(ad.add (i * 2)).block, (ad.add (i * 2)).off + 1, none⟩ : Addr) = ⟨gb, i * 2 + 1, none⟩ := by rw [HE.out, add0_]
  have hne : g ≠ gb := by
    rintro rfl
    have h3 := HX.out.1
    rw [HCU.out] at h3
    injection h3 with h3
    injection h3 with _ h3
    exact absurd h3 (by decide)
  have HX1 : Hid (((w2.setCell ⟨(ad.add (i * 2)).block, (ad.add (i * 2)).off + 1, none⟩ (.bool false)).drew).heap[g]? = some (.cells #[.int .i64 most, .slice (some ad) ps.length c, .int .i64 n] 106 (0, 0))) := by
    rw [e3]
    exact blk_far (p := ⟨gb, i * 2 + 1, none⟩) HX.out.1 hne _
  have HX2 : Hid (Kd.R k108 108 ((w2.setCell ⟨(ad.add (i * 2)).block, (ad.add (i * 2)).off + 1, none⟩ (.bool false)).drew) base (fun _ => True) (.slice (some ad) ps.length c) (ps.set i ⟨(plc ps i).f0, false⟩)) := by
    have h3 := HX.out.2
    rw [HE.out] at h3 ⊢
    rw [add0_]
    exact Kd.R_drew (putb108 h3 i hi false)
  have HF : Hid (Fq base g w ((w2.setCell ⟨(ad.add (i * 2)).block, (ad.add (i * 2)).off + 1, none⟩ (.bool false)).drew)) := by
    rw [e3]
    exact (Fq.of_below HB2.out HBW.out HGW.out).trans ⟨⟨((Below.refl base w2).setCell (p := ⟨gb, i * 2 + 1, none⟩) HGB.out _).drew, (Keeps.refl _ w2).set HCU.out (by decide) (i * 2 + 1) _⟩, Oth.set (.inr ⟨fun e => hne e.symm, HAB.out⟩)⟩
  generalize (w2.setCell ⟨(ad.add (i * 2)).block, (ad.add (i * 2)).off + 1, none⟩ (.bool false)).drew = W3 at *
  clear c1 c2 f2 x0 x1 fx1 e3 k0
  have c2 := (blk_cell HX1.out 2).trans (show _ = some (Value.int .i64 n) from rfl)
  have f2 : W3.frozen? ⟨g, 2, none⟩ = false := blk_frozen HX1.out 2
  clear HX HP2 HB2 HCU HE
  go_wp2
  go_ret
  refine ⟨rfl, ⟨g0, some ad, c, ?_, ?_⟩, HF.out.trans ⟨⟨(Below.refl base W3).setCell (p := ⟨g, 2, none⟩) g0 _, (Keeps.refl _ W3).set HX1.out (by decide) 2 _⟩, Oth.set (.inl ⟨rfl, by decide⟩)⟩⟩
  · rw [List.length_set]
    exact blk_set HX1.out 2 (.int .i64 (n - 1))
  · rw [List.length_set]
    exact Kd.R_set HX2.out HX1.out (fun q hq => by
      have : q = 108 := by simpa [k108, Kd.iso, Kd.pair, Kd.int, Kd.bool, Kd.scalar] using hq
      rw [this]; decide) 2 _
end Go.Proofs.YtphaaagcdjpceaaDoor
