/- desk: Keep, where the session is there and a place for a snapshot is free. -/
import Derived.Test.YtphaaagcdjpceaaDoorDk5
namespace Go.Proofs.YtphaaagcdjpceaaDoor
open Go.RowKit Go.Extern.Stop Go.Stop Go.Extern Go.Proofs.YtphaaagcdjpceaaDoorW.PrintWords Go.Proofs.YtphaaagcdjpceaaDoorW.PrintLast Go.Proofs.YtphaaagcdjpceaaDoorW.PrintMore
open Go.Maps (Keyed)
set_option linter.unusedVariables false
/-- A session's refs by their places. -/
abbrev RM (W : World) (M n : Nat) (D : DataW Unit) : Prop := W.ownsMap Tryd.prog 3 (plainElem Tryd.prog 3) M n D
theorem plain_int {r : Int} (hr : (Lit.int .i64 r).wf = true) : plainElem (H := Unit) Tryd.prog 3 (.int .i64 r) = some (.lit (.int .i64 r), []) := by
  simp [plainElem, Tryd.underlying3, hr]
theorem RM.put {W : World} {M n : Nat} {D : DataW Unit} (h : RM W M n D) (hn : n < maxLen) (p : Int) (hp : (Lit.int .i64 p).wf = true) (r : Int) (hr : (Lit.int .i64 r).wf = true) : ∃ w', (Instr.mapUpdate 123 (.map (some M)) (.int .i64 p) (.int .i64 r)).run Tryd.prog W = .ok () w' ∧ RM w' M (n + 1) (D.put (.int .i64 p) (.lit (.int .i64 r))) ∧ W.grownBy w' (some M) :=
  World.ownsMap.update h key3 Tryd.underlying123 hn (Go.Maps.keyOf_int_mk Tryd.underlying3 hp) (plain_int hr)
/-- What kind of block each of a session's is. -/
theorem SS.kinds {W : World} {base sb : Nat} {sm : Int} {s : Sn} (h : SS W base sb sm s) (k : Nat) (hk : foot W sb s k) : (∃ es c, W.heap[k]? = some (Obj.map es c)) ∧ k = s.mb ∨ ∃ cs t fr, W.heap[k]? = some (Obj.cells cs t fr) ∧ t ≠ 40 := by
  obtain ⟨h1, ⟨g0, A, c, p1, p2⟩, ⟨es, clock, hm, r⟩, h4, h5⟩ := h
  rcases hk with rfl | rfl | hk | rfl | hk
  · exact .inr ⟨_, _, _, h1, by decide⟩
  · exact .inr ⟨_, _, _, p1, by decide⟩
  · rw [abk_of ((blk_cell p1 1).trans (show _ = some (Value.slice A s.ps.length c) from rfl))] at hk
    obtain ⟨cells, hc⟩ := Kd.R_typed p2 k hk.symm
    exact .inr ⟨_, _, _, hc, by decide⟩
  · exact .inl ⟨⟨_, _, hm⟩, rfl⟩
  · obtain ⟨cells, hc⟩ := Kd.R_typed h4 k hk.symm
    exact .inr ⟨_, _, _, hc, by decide⟩
/-- A pair is none of a session's blocks. -/
theorem SS.only2 {W W' : World} {base sb : Nat} {sm : Int} {s : Sn} (h : SS W base sb sm s) {x : Nat} {a b : Int} (hx : Hn W x a b) (ho : ∀ k, k ≠ x → W'.heap[k]? = W.heap[k]?) : SS W' base sb sm s :=
  h.same (fun k hk => ho k (by
    have hx' : W.heap[x]? = some (Obj.cells #[.int .i64 a, .int .i64 b] 40 (0, 0)) := hx
    rintro rfl
    rcases h.kinds k hk with ⟨⟨es, c, e⟩, _⟩ | ⟨cs, t, fr, e, ht⟩
    · rw [e] at hx'; cases hx'
    · rw [e] at hx'; injection hx' with hx'; injection hx' with _ hx' _; exact ht hx'))
/-- The session's pool has turned. -/
theorem SS.took {W W1 : World} {base sb : Nat} {sm : Int} {s : Sn} (h : SS W base sb sm s) {ps : List S108} {n : Int} (hp : PL W1 base s.sg sm ps n) (hf : Fq base s.sg W W1) : SS W1 base sb sm { s with ps := ps, n := n } := by
  have hmb : s.mb ≠ s.sg ∧ some s.mb ≠ abk W s.sg := by
    obtain ⟨h1, ⟨g0, A, c, p1, p2⟩, ⟨es, clock, hm, r⟩, h4, h5⟩ := h
    refine ⟨?_, ?_⟩
    · intro e; rw [e] at hm; rw [p1] at hm; cases hm
    · intro he
      rw [abk_of ((blk_cell p1 1).trans (show _ = some (Value.slice A s.ps.length c) from rfl))] at he
      obtain ⟨cells, hc⟩ := Kd.R_typed p2 s.mb he.symm
      rw [hc] at hm; cases hm
  obtain ⟨h1, _, ⟨es, clock, hm, r⟩, h4, h5⟩ := h
  refine ⟨(hf.fr.2.2 sb _ _ _ h1 (by decide)).trans h1, hp, ⟨es, clock, (hf.oth.1 s.mb (blk_lt hm) hmb.1 hmb.2).trans hm, r⟩, R_same h4 rfl (fun k hk => ?_), h5⟩
  obtain ⟨cells, hc⟩ := Kd.R_typed h4 k hk.symm
  exact hf.fr.2.2 k _ _ _ hc (by decide)
/-- The session's refs have turned. -/
theorem SS.put {W wm : World} {base sb : Nat} {sm : Int} {s : Sn} (h : SS W base sb sm s) (hg : W.grownBy wm (some s.mb)) {cap2 : Nat} {D2 : DataW Unit} (hm : RM wm s.mb cap2 D2) : SS wm base sb sm { s with cap := cap2, D := D2 } := by
  have hne : ∀ k, foot W sb s k → k ≠ s.mb → wm.heap[k]? = W.heap[k]? := fun k hk hn => hg.block k (h.lt k hk).2 (by rintro e; injection e with e; exact hn e)
  have hm' := h.mp
  obtain ⟨a1, a2, a3, a4⟩ := h.apart
  obtain ⟨h1, ⟨g0, A, c, p1, p2⟩, ⟨es, clock, hm0, r⟩, h4, h5⟩ := h
  have ea := abk_of ((blk_cell p1 1).trans (show _ = some (Value.slice A s.ps.length c) from rfl))
  refine ⟨(hne sb (.inl rfl) a3).trans h1, PL.same ⟨g0, A, c, p1, p2⟩ (hne s.sg (.inr (.inl rfl)) ?_) (fun k hk => hne k (.inr (.inr (.inl hk))) ?_), hm, R_same h4 rfl (fun k hk => hne k (.inr (.inr (.inr (.inr hk)))) ?_), h5⟩
  · intro e; rw [e] at p1; rw [p1] at hm0; cases hm0
  · rintro rfl
    rw [ea] at hk
    obtain ⟨cells, hc⟩ := Kd.R_typed p2 _ hk.symm
    rw [hc] at hm0; cases hm0
  · rintro rfl
    obtain ⟨cells, hc⟩ := Kd.R_typed h4 _ hk.symm
    rw [hc] at hm0; cases hm0
/-- What a store to a map leaves. -/
structure Pv (W w' : World) (M n : Nat) (D : DataW Unit) : Prop where
  mp : RM w' M n D
  gr : W.grownBy w' (some M)
set_option maxRecDepth 100000 in
theorem upon_putr {o : Oper} {a : Act} {K : Act → World → Prop} {Q : Exit → Act → World → Prop} {W : World} {M n : Nat} {D : DataW Unit} {p r : Int} {f : Unit → World → Result Next} (h : RM W M n D) (hn : n < maxLen) (hp : (Lit.int .i64 p).wf = true) (hr : (Lit.int .i64 r).wf = true)
    (hk : ∀ w', Pv W w' M (n + 1) (D.put (.int .i64 p) (.lit (.int .i64 r))) → Oper.upon Tryd.prog o a K Q ((Result.ok () w').andThen f)) :
    Oper.upon Tryd.prog o a K Q ((Sem.run Tryd.prog (Instr.mapUpdate 123 (.map (some M)) (.int .i64 p) (.int .i64 r)) W).andThen f) := by
  obtain ⟨w', hr, h1, h2⟩ := h.put hn p hp r hr
  rw [hr]
  exact hk w' ⟨h1, h2⟩
theorem Pv.keeps {W w' : World} {M n : Nat} {D : DataW Unit} (h : Pv W w' M n D) {k : Nat} {cs : Array Value} {t : Nat} {fr : Nat × Nat} (hk : W.heap[k]? = some (Obj.cells cs t fr)) {D0 : DataW Unit} {n0 : Nat} (hm : RM W M n0 D0) : w'.heap[k]? = some (Obj.cells cs t fr) := by
  have hne : k ≠ M := by
    rintro rfl
    obtain ⟨es, clock, hm1, _⟩ := hm
    rw [hm1] at hk; cases hk
  exact (h.gr.block k (blk_lt hk) (by rintro e; injection e with e; exact hne e)).trans hk
theorem two40 (w : World) (a b c d : Value) : Below w.heap.size w ((w.alloc (.cells #[a, b] 40)).alloc (.cells #[c, d] 40)) ∧ ((w.alloc (.cells #[a, b] 40)).alloc (.cells #[c, d] 40)).heap[w.heap.size]? = some (.cells #[a, b] 40 (0, 0)) ∧ ((w.alloc (.cells #[a, b] 40)).alloc (.cells #[c, d] 40)).heap[w.heap.size + 1]? = some (.cells #[c, d] 40 (0, 0)) := by
  have h1 := heap_alloc_new w (.cells #[a, b] 40)
  have h2 := heap_alloc_new (w.alloc (.cells #[a, b] 40)) (.cells #[c, d] 40)
  rw [World.size_alloc] at h2
  exact ⟨below_alloc (below_alloc (Below.refl _ _) _) _, (Below.heap_alloc _ _ _ (blk_lt h1)).trans h1, h2⟩
/-- A pair that is new is told; else all stays. -/
theorem pair_told {base g M x : Nat} {w wc : World} {u v : Value} (f : DF g M w wc) (b : Below base w wc) (hx : w.heap.size ≤ x) (hg : g < w.heap.size) (hb : base ≤ w.heap.size) : DF g M w ((wc.setCell ⟨x, 0, none⟩ u).setCell ⟨x, 1, none⟩ v) ∧ Below base w ((wc.setCell ⟨x, 0, none⟩ u).setCell ⟨x, 1, none⟩ v) := by
  have ho : ∀ k, k ≠ x → ((wc.setCell ⟨x, 0, none⟩ u).setCell ⟨x, 1, none⟩ v).heap[k]? = wc.heap[k]? := fun k hk => (Below.heap_setCell _ ⟨x, 1, none⟩ _ k hk).trans (Below.heap_setCell wc ⟨x, 0, none⟩ _ k hk)
  refine ⟨⟨by simpa [World.setCell] using f.size, fun k hk k1 k2 k3 => (ho k (by omega)).trans (f.block k hk k1 k2 k3), ?_⟩, (b.setCell (p := ⟨x, 0, none⟩) (Nat.le_trans hb hx) u).setCell (p := ⟨x, 1, none⟩) (Nat.le_trans hb hx) v⟩
  rw [abk_same (ho g (by omega))]
  exact f.row
theorem SS.sgmb {W : World} {base sb : Nat} {sm : Int} {s : Sn} (h : SS W base sb sm s) : s.sg ≠ s.mb := by
  obtain ⟨h1, ⟨g0, A, c, p1, p2⟩, ⟨es, clock, hm, r⟩, h4, h5⟩ := h
  intro e; rw [e] at p1; rw [p1] at hm; cases hm
set_option maxHeartbeats 8000000 in
set_option maxRecDepth 100000 in
theorem keep_ok (d base pg M sb : Nat) (most n : Int) (ps : List S108) (snaps : Int) (cap : Nat) (D : DataW Unit) (p t : Int) (sm : Int) (s : Sn) (r : Int) (i : Nat) (w : World) (h : DK w base d pg M most n ps snaps cap D) (hp : (Lit.int .i64 p).wf = true) (hh : hasB ps p t = true) (hs : D.atKey (.int .i64 p) .nil = .lit (.int .i64 (sb : Int)))
    (hS : SS w base sb sm s) (hcap : s.cap < 1000000) (hr : (Lit.int .i64 r).wf = true) (hi : i ≤ s.ps.length) (hf : ∀ j, j < i → (plc s.ps j).f1 = true) (hf2 : i < s.ps.length → (plc s.ps i).f1 = false) (hm : (i : Int) ≠ sm) (hl : s.ps.length ≤ 1000) (ht0 : 0 ≤ turnOf s.ps i) (ht1 : turnOf s.ps i ≤ 1000000) (hn0 : -1000000 ≤ s.n) (hn1 : s.n ≤ 1000000) :
    Calls Tryd.prog 42 #[.pointer (some ⟨d, 0, none⟩), .agg #[.int .i64 p, .int .i64 t], .int .i64 r] w fun e w' => e = .returned (.tuple #[.agg #[.int .i64 (i : Int), .int .i64 (turnOf s.ps i)], .nilIface]) ∧ SS w' base sb sm { s with ps := tookL s.ps i, n := s.n + 1, cap := s.cap + 1, D := s.D.put (.int .i64 (i : Int)) (.lit (.int .i64 r)) } ∧ DF s.sg s.mb w w' ∧ Below base w w' := by
  obtain ⟨B1, hN, hR⟩ := two40 w (.int .i64 p) (.int .i64 t) (.int .i64 0) (.int .i64 0)
  have HN := Lib.hid (show Hn ((w.alloc (.cells #[.int .i64 p, .int .i64 t] 40)).alloc (.cells #[.int .i64 0, .int .i64 0] 40)) w.heap.size p t from hN)
  have HR := Lib.hid (show Hn ((w.alloc (.cells #[.int .i64 p, .int .i64 t] 40)).alloc (.cells #[.int .i64 0, .int .i64 0] 40)) (w.heap.size + 1) 0 0 from hR)
  have HD := Lib.hid (h.below B1)
  have HS := Lib.hid (hS.below B1)
  have HB := Lib.hid B1
  have HA := Lib.hid (And.intro hp (And.intro hh (And.intro hs (And.intro hcap hr))))
  have HT := Lib.hid (And.intro hi (And.intro hf (And.intro hf2 (And.intro hm (And.intro hl (And.intro ht0 (And.intro ht1 (And.intro hn0 hn1))))))))
  have HLT := Lib.hid (And.intro (show sb < w.heap.size from blk_lt hS.hd) (And.intro hS.lo.1 (And.intro hS.lo.2 hS.pl.glt)))
  clear B1 hN hR h hp hh hs hS hcap hr hi hf hf2 hm hl ht0 ht1 hn0 hn1
  go_enter Tryd.func42, Tryd.ntmps42
  go_upto_region 1 with (fail)
  generalize (w.alloc (.cells #[.int .i64 p, .int .i64 t] 40)).alloc (.cells #[.int .i64 0, .int .i64 0] 40) = w1 at *
  have q0 := (blk_cell HN.out 0).trans (show _ = some (Value.int .i64 p) from rfl)
  have q1 := (blk_cell HN.out 1).trans (show _ = some (Value.int .i64 t) from rfl)
  go_upto_region 4 with (go_at_call 61; (with_reducible refine (find_yes d base pg M sb most n ps snaps cap D p t _ HD.out HA.out.1 HA.out.2.1 HA.out.2.2.1).mono ?_); rintro e w2 ⟨rfl, hb⟩; have HB2 := Lib.hid (below_step HB.out hb); have HS2 := Lib.hid (HS.out.below hb); have HR2 := Lib.hid (show Hn w2 (w.heap.size + 1) 0 0 from blk_below HR.out hb); clear hb)
  clear q0 q1
  have s2 := (blk_cell HS2.out.hd 2).trans (show _ = some (Value.pointer (some ⟨s.sg, 0, none⟩)) from rfl)
  obtain ⟨hi, hf, hf2, hm, hl, ht0, ht1, hn0, hn1⟩ := HT.out
  go_upto_region 5 with (go_at_call 16; (with_reducible refine (take_oq s.sg base sm s.n s.ps i _ HS2.out.pl hi hf hf2 hm hl ht0 ht1 hn0 hn1).mono ?_); rintro e w3 ⟨rfl, h3, f3⟩; have HS3 := Lib.hid (HS2.out.took h3 f3); have HR3 := Lib.hid (HR2.out.fr f3.fr); have HF3 := Lib.hid f3; clear h3 f3)
  obtain ⟨tn, htn⟩ : ∃ tn, turnOf s.ps i = tn := ⟨_, rfl⟩
  have HTN := Lib.hid htn
  rw [htn]
  clear hi hf hf2 hm hl ht0 ht1 hn0 hn1 htn s2
  have B4 := below_alloc (Below.refl w3.heap.size w3) (.cells #[.int .i64 (i : Int), .int .i64 tn] 40)
  have HX := Lib.hid (show Hn (w3.alloc (.cells #[.int .i64 (i : Int), .int .i64 tn] 40)) w3.heap.size (i : Int) tn from heap_alloc_new w3 _)
  have HS4 := Lib.hid (HS3.out.below B4)
  have HR4 := Lib.hid (show Hn (w3.alloc (.cells #[.int .i64 (i : Int), .int .i64 tn] 40)) (w.heap.size + 1) 0 0 from blk_below HR3.out B4)
  have HB4 := Lib.hid B4
  clear B4
  go_upto_region 7 with (fail)
  generalize w3.alloc (.cells #[.int .i64 (i : Int), .int .i64 tn] 40) = w4 at *
  have s3 := (blk_cell HS4.out.hd 3).trans (show _ = some (Value.map (some s.mb)) from rfl)
  have k0 := (blk_cell HX.out 0).trans (show _ = some (Value.int .i64 (i : Int)) from rfl)
  have HWF := Lib.hid (show (Lit.int .i64 (i : Int)).wf = true from wf_i64 (by omega) (by have := HT.out.1; have := HT.out.2.2.2.2.1; omega))
  have HCP := Lib.hid (show s.cap < maxLen by show s.cap < 9223372036854775807; have := HA.out.2.2.2.1; omega)
  go_cut [10] (fun v10 wc => v10 = .pointer (some ⟨w3.heap.size, 0, none⟩) ∧ Hid (Pv w4 wc s.mb (s.cap + 1) (s.D.put (.int .i64 (i : Int)) (.lit (.int .i64 r)))))
  case first =>
    go_region_held3 (fun w' => w'.cell? ⟨sb, 3, none⟩ = some (.map (some s.mb)) ∧ w'.cell? ⟨w3.heap.size, 0, none⟩ = some (.int .i64 (i : Int))) (first | go_keep | exact ⟨s3, k0⟩ | exact ⟨(blk_cell (HPV.out.keeps HS4.out.hd HS4.out.mp) 3).trans rfl, (blk_cell (HPV.out.keeps HX.out HS4.out.mp) 0).trans rfl⟩) ((refine upon_putr (show RM w4.drew s.mb s.cap s.D from HS4.out.mp) HCP.out HWF.out HA.out.2.2.2.2 ?_; intro wm hm1; have HPV := Lib.hid (show Pv w4 wm s.mb (s.cap + 1) (s.D.put (.int .i64 (i : Int)) (.lit (.int .i64 r))) from ⟨hm1.mp, ⟨hm1.gr.os, hm1.gr.tape, hm1.gr.output, hm1.gr.size, hm1.gr.block⟩⟩); clear hm1; go_simp))
    all_goals (
      go_wp2
      go_meet
      case rel => exact ⟨rfl, HPV⟩)
  case rest =>
    obtain ⟨rfl, HPV⟩ := hcut
    have HRc := Lib.hid (show Hn wc (w.heap.size + 1) 0 0 from HPV.out.keeps HR4.out HS4.out.mp)
    have HXc := Lib.hid (show Hn wc w3.heap.size (i : Int) tn from HPV.out.keeps HX.out HS4.out.mp)
    have HS5 := Lib.hid (HS4.out.put HPV.out.gr HPV.out.mp)
    have hx0 := (blk_cell HXc.out 0).trans (show _ = some (Value.int .i64 (i : Int)) from rfl)
    have hx1 := (blk_cell HXc.out 1).trans (show _ = some (Value.int .i64 tn) from rfl)
    have hr0 := (blk_cell HRc.out 0).trans (show _ = some (Value.int .i64 0) from rfl)
    have hr1 := (blk_cell HRc.out 1).trans (show _ = some (Value.int .i64 0) from rfl)
    have hz0 := blk_frozen HRc.out 0
    have hz1 := blk_frozen HRc.out 1
    have hlt := HLT.out
    have hbw : base ≤ w.heap.size := by omega
    have g2 : s.sg < w2.heap.size := Nat.lt_of_lt_of_le hlt.2.2.2 HB2.out.size
    have g3 : s.sg < w3.heap.size := Nat.lt_of_lt_of_le g2 HF3.out.fr.1.size
    have g4 : s.sg < w4.heap.size := Nat.lt_of_lt_of_le g3 HB4.out.size
    have f4 := ((DF.of_below (M := s.mb) HB2.out hlt.2.2.2).trans (DF.of_oth HF3.out.oth HF3.out.fr.1.size)).trans (DF.of_below HB4.out g3)
    have b4 := ((HB2.out.mono hbw).trans HF3.out.fr.1).trans (HB4.out.mono (Nat.le_trans (Nat.le_trans hbw HB2.out.size) HF3.out.fr.1.size))
    have fc := f4.trans (DF.of_put HPV.out.gr g4 HS4.out.sgmb)
    have bc := Below.grown b4 HPV.out.gr (Nat.le_trans hbw f4.size) (fun k hk => by injection hk with hk; subst hk; exact hlt.2.2.1)
    have HFIN := Lib.hid (pair_told (x := w.heap.size + 1) (u := .int .i64 (i : Int)) (v := .int .i64 tn) fc bc (by omega) hlt.2.2.2 hbw)
    have HSF := Lib.hid (HS5.out.only2 (W' := (wc.setCell ⟨w.heap.size + 1, 0, none⟩ (.int .i64 (i : Int))).setCell ⟨w.heap.size + 1, 1, none⟩ (.int .i64 tn)) HRc.out (fun k hk => (Below.heap_setCell _ ⟨w.heap.size + 1, 1, none⟩ _ k hk).trans (Below.heap_setCell wc ⟨w.heap.size + 1, 0, none⟩ _ k hk)))
    have hB := blk_set (blk_set HRc.out 0 (.int .i64 (i : Int))) 1 (.int .i64 tn)
    have r0 := (blk_cell hB 0).trans (show _ = some (Value.int .i64 (i : Int)) from rfl)
    have r1 := (blk_cell hB 1).trans (show _ = some (Value.int .i64 tn) from rfl)
    clear hB hlt hbw g2 g3 g4 f4 b4 fc bc
    go_wp2_with (fail)
    exact bodyPost_ret (v := .tuple #[.agg #[.int .i64 (i : Int), .int .i64 tn], .nilIface]) (by simp [results, Tryd.results42, go_sem, r0, r1]) rfl ⟨by rw [HTN.out], HSF.out, HFIN.out.1, HFIN.out.2⟩
end Go.Proofs.YtphaaagcdjpceaaDoor
