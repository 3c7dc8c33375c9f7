/- desk: Open. -/
import Derived.Test.YtphaaagcdjpceaaDoorDk2
import Derived.Deep.RegionWith
namespace Go.Proofs.YtphaaagcdjpceaaDoor
open Go.RowKit Go.Extern.Stop Go.Stop Go.Extern Go.Proofs.YtphaaagcdjpceaaDoorW.PrintWords Go.Proofs.YtphaaagcdjpceaaDoorW.PrintLast Go.Proofs.YtphaaagcdjpceaaDoorW.PrintMore
open Go.Maps (Keyed)
set_option linter.unusedVariables false
/-- m[k] = a pointer, at a desk's map. -/
theorem MP.put {W : World} {M n : Nat} {D : DataW Unit} (h : MP W M n D) (hn : n < maxLen) (p : Int) (hp : (Lit.int .i64 p).wf = true) (b : Nat) : ∃ w', (Instr.mapUpdate 131 (.map (some M)) (.int .i64 p) (.pointer (some ⟨b, 0, none⟩))).run Tryd.prog W = .ok () w' ∧ MP w' M (n + 1) (D.put (.int .i64 p) (.lit (.int .i64 (b : Int)))) ∧ W.grownBy w' (some M) :=
  World.ownsMap.update h key3 Tryd.underlying131 hn (Go.Maps.keyOf_int_mk Tryd.underlying3 hp) rfl
theorem MP.below {W W1 : World} {M n : Nat} {D : DataW Unit} (h : MP W M n D) (hb : Below W.heap.size W W1) : MP W1 M n D := by
  obtain ⟨es, clock, hm, r⟩ := h
  exact ⟨es, clock, (hb.block M (blk_lt hm)).trans hm, r⟩
/-- The desk's map is none of its pool's blocks. -/
theorem mp_oth {W W1 : World} {base d pg M : Nat} {most n : Int} {ps : List S108} {snaps : Int} {cap : Nat} {D : DataW Unit} (h : DK W base d pg M most n ps snaps cap D) (ho : Oth pg W W1) : MP W1 M cap D := by
  obtain ⟨h1, ⟨g0, A, c, p1, p2⟩, ⟨es, clock, hm, r⟩⟩ := h
  refine ⟨es, clock, (ho.1 M (blk_lt hm) ?_ ?_).trans hm, r⟩
  · rintro rfl; rw [p1] at hm; cases hm
  · intro he
    rw [abk_of ((blk_cell p1 1).trans (show _ = some (Value.slice A ps.length c) from rfl))] at he
    obtain ⟨cells, hc⟩ := Kd.R_typed p2 M he.symm
    rw [hc] at hm
    cases hm
theorem wf_i64 {x : Int} (h0 : -9223372036854775808 ≤ x) (h1 : x ≤ 9223372036854775807) : (Lit.int .i64 x).wf = true := by
  simp [Lit.wf, IntKind.min, IntKind.max, IntKind.signed, IntKind.bits]
  omega
/-- What a store to the desk's map leaves of an elder world. -/
structure Pu (w3 W w' : World) (M n : Nat) (D : DataW Unit) : Prop where
  mp : MP w' M n D
  bw : Below w3.heap.size w3 W
  gr : W.grownBy w' (some M)
theorem Pu.cell {w3 W w' : World} {M n : Nat} {D : DataW Unit} (h : Pu w3 W w' M n D) {a : Addr} {v : Value} (hc : w3.cell? a = some v) (hne : a.block ≠ M) : w'.cell? a = some v := by
  have hl := cell_lt hc
  have e := h.gr.block a.block (Nat.lt_of_lt_of_le hl h.bw.size) (by intro e; injection e with e; exact hne e)
  rw [World.cell?_of_block e, h.bw.cell hl]
  exact hc
set_option maxRecDepth 100000 in
theorem upon_put {o : Oper} {a : Act} {K : Act → World → Prop} {Q : Exit → Act → World → Prop} {w3 W : World} {M n : Nat} {D : DataW Unit} {p : Int} {b : Nat} {f : Unit → World → Result Next} (hb : Below w3.heap.size w3 W) (h : MP w3 M n D) (hn : n < maxLen) (hp : (Lit.int .i64 p).wf = true)
    (hk : ∀ w', Pu w3 W w' M (n + 1) (D.put (.int .i64 p) (.lit (.int .i64 (b : Int)))) → Oper.upon Tryd.prog o a K Q ((Result.ok () w').andThen f)) :
    Oper.upon Tryd.prog o a K Q ((Sem.run Tryd.prog (Instr.mapUpdate 131 (.map (some M)) (.int .i64 p) (.pointer (some ⟨b, 0, none⟩))) W).andThen f) := by
  obtain ⟨w', hr, h1, h2⟩ := MP.put (h.below hb) hn p hp b
  rw [hr]
  exact hk w' ⟨h1, hb, h2⟩
/-- What a call of a desk leaves of the blocks that were there: its pool's two and its map's may have turned. -/
structure DF (pg M : Nat) (w w' : World) : Prop where
  size : w.heap.size ≤ w'.heap.size
  block : ∀ k, k < w.heap.size → k ≠ pg → some k ≠ abk w pg → k ≠ M → w'.heap[k]? = w.heap[k]?
  row : abk w' pg = abk w pg ∨ ∃ b, abk w' pg = some b ∧ w.heap.size ≤ b
theorem DF.of_oth {pg M : Nat} {w w' : World} (h : Oth pg w w') (hs : w.heap.size ≤ w'.heap.size) : DF pg M w w' := ⟨hs, fun k hk h1 h2 _ => h.1 k hk h1 h2, h.2⟩
theorem DF.trans {pg M : Nat} {a b c : World} (h : DF pg M a b) (k : DF pg M b c) : DF pg M a c := by
  refine ⟨Nat.le_trans h.size k.size, fun j hj h1 h2 h3 => ?_, ?_⟩
  · rw [k.block j (Nat.lt_of_lt_of_le hj h.size) h1 (by
      rcases h.row with e | ⟨x, e, hx⟩
      · rw [e]; exact h2
      · rw [e]; intro he; injection he with he; omega) h3]
    exact h.block j hj h1 h2 h3
  · rcases k.row with e | ⟨x, e, hx⟩
    · rw [e]; exact h.row
    · exact .inr ⟨x, e, Nat.le_trans h.size hx⟩
theorem DF.of_below {pg M : Nat} {w w' : World} (h : Below w.heap.size w w') (hg : pg < w.heap.size) : DF pg M w w' := .of_oth (Oth.of_below h hg) h.size
theorem DF.of_put {pg M : Nat} {w w' : World} (h : w.grownBy w' (some M)) (hg : pg < w.heap.size) (hne : pg ≠ M) : DF pg M w w' :=
  ⟨h.size, fun k hk _ _ h3 => h.block k hk (by simpa using h3), .inl (by unfold abk; rw [World.cell?_of_block (a := ⟨pg, 1, none⟩) (h.block pg hg (by simpa using hne))])⟩
theorem DK.apart {W : World} {base d pg M : Nat} {most n : Int} {ps : List S108} {snaps : Int} {cap : Nat} {D : DataW Unit} (h : DK W base d pg M most n ps snaps cap D) : d ≠ M ∧ pg ≠ M ∧ some M ≠ abk W pg ∧ d ≠ pg ∧ some d ≠ abk W pg := by
  obtain ⟨h1, ⟨g0, A, c, p1, p2⟩, ⟨es, clock, hm, r⟩⟩ := h
  have ea := abk_of ((blk_cell p1 1).trans (show _ = some (Value.slice A ps.length c) from rfl))
  refine ⟨?_, ?_, ?_, ?_, ?_⟩
  · rintro rfl; rw [h1] at hm; cases hm
  · rintro rfl; rw [p1] at hm; cases hm
  · intro he
    rw [ea] at he
    obtain ⟨cells, hc⟩ := Kd.R_typed p2 M he.symm
    rw [hc] at hm
    cases hm
  · rintro rfl; rw [h1] at p1; cases p1
  · intro he
    rw [ea] at he
    obtain ⟨cells, hc⟩ := Kd.R_typed p2 d he.symm
    rw [hc] at h1
    cases h1
theorem DK.put {W wm : World} {base d pg M : Nat} {most n : Int} {ps : List S108} {snaps : Int} {cap cap2 : Nat} {D D2 : DataW Unit} (h : DK W base d pg M most n ps snaps cap D) (hg : W.grownBy wm (some M)) (hm : MP wm M cap2 D2) : DK wm base d pg M most n ps snaps cap2 D2 := by
  obtain ⟨a1, a2, a3, _, _⟩ := h.apart
  refine ⟨(hg.block d (blk_lt h.hd) (by simpa using a1)).trans h.hd, h.pl.same (hg.block pg h.pl.glt (by simpa using a2)) (fun k hk => ?_), hm⟩
  obtain ⟨g0, A, c, p1, p2⟩ := h.pl
  have ea := abk_of ((blk_cell p1 1).trans (show _ = some (Value.slice A ps.length c) from rfl))
  refine hg.block k ?_ (by rintro he; injection he with he; subst he; exact a3 hk)
  rw [ea] at hk
  exact ((Kd.R_bound p2).1 k hk.symm).2.2.1
theorem SS.kept {W wm : World} {base sb M : Nat} {most : Int} {s : Sn} (h : SS W base sb most s) (hg : W.grownBy wm (some M)) (hM : M < base) : SS wm base sb most s :=
  h.same (fun k hk => hg.block k (h.lt k hk).2 (by rintro he; injection he with he; have := (h.lt k hk).1; omega))
/-- A session that was just made. -/
def newS (sg mb : Nat) : Sn := ⟨false, .slice none 0 0, [], sg, [], 0, mb, 0, .map []⟩
theorem SS.new {W : World} {base sb sg mb : Nat} {most : Int} (hp : PL W base sg most [] 0) (hm : W.ownsMap Tryd.prog 3 (plainElem Tryd.prog 3) mb 0 (DataW.map [] : DataW Unit)) (hd : W.heap[sb]? = some (.cells #[.bool false, .slice none 0 0, .pointer (some ⟨sg, 0, none⟩), .map (some mb)] 136 (0, 0))) (h1 : base ≤ sb) (h2 : base ≤ mb) : SS W base sb most (newS sg mb) :=
  ⟨hd, hp, hm, Kd.R_nil _ _ _ _ _, h1, h2⟩
theorem PL.lower {W : World} {base b2 g : Nat} {most n : Int} {ps : List S108} (h : PL W base g most ps n) (hb : b2 ≤ base) : PL W b2 g most ps n := by
  obtain ⟨h0, A, c, h1, h2⟩ := h
  exact ⟨Nat.le_trans hb h0, A, c, h1, Kd.R_lower h2 hb⟩
/-- What Open leaves behind the entry in the desk's map. -/
structure Opn (base d pg M : Nat) (most n : Int) (ps : List S108) (snaps : Int) (cap : Nat) (D : DataW Unit) (sm : Int) (sb sg mb : Nat) (w3 wm : World) : Prop where
  dk : DK wm base d pg M most n ps snaps cap D
  ss : SS wm w3.heap.size sb sm (newS sg mb)
  df : DF pg M w3 wm
  be : Below base w3 wm
  fr : ∀ k, some k = abk wm sg → some k ≠ abk wm pg
theorem PL.abl {W : World} {base g : Nat} {most n : Int} {ps : List S108} (h : PL W base g most ps n) (k : Nat) (hk : some k = abk W g) : base ≤ k ∧ k < W.heap.size := by
  obtain ⟨g0, A, c, p1, p2⟩ := h
  rw [abk_of ((blk_cell p1 1).trans (show _ = some (Value.slice A ps.length c) from rfl))] at hk
  have := (Kd.R_bound p2).1 k hk.symm
  exact ⟨this.2.1, this.2.2.1⟩
theorem opn_of {base d pg M : Nat} {most n : Int} {ps : List S108} {snaps : Int} {cap : Nat} {D D2 : DataW Unit} {sm : Int} {sb sg mb : Nat} {w3 wP wm : World} (hdk : DK w3 base d pg M most n ps snaps cap D) (hlo : base ≤ w3.heap.size) (hM : base ≤ M) (hpl : PL wP w3.heap.size sg sm [] 0) (hmp : wP.ownsMap Tryd.prog 3 (plainElem Tryd.prog 3) mb 0 (DataW.map [] : DataW Unit))
    (hsb : wP.heap[sb]? = some (.cells #[.bool false, .slice none 0 0, .pointer (some ⟨sg, 0, none⟩), .map (some mb)] 136 (0, 0))) (h1 : w3.heap.size ≤ sb) (h2 : w3.heap.size ≤ mb) (hpu : Pu w3 wP wm M (cap + 1) D2) : Opn base d pg M most n ps snaps (cap + 1) D2 sm sb sg mb w3 wm := by
  have hM3 : M < w3.heap.size := by obtain ⟨es, clock, hm, _⟩ := hdk.mp; exact blk_lt hm
  have hg3 := hdk.pl.glt
  have hss := (SS.new hpl hmp hsb h1 h2).kept hpu.gr hM3
  refine ⟨(hdk.below hpu.bw).put hpu.gr hpu.mp, hss, (DF.of_below hpu.bw hg3).trans (DF.of_put hpu.gr (Nat.lt_of_lt_of_le hg3 hpu.bw.size) hdk.apart.2.1), Below.grown (hpu.bw.mono hlo) hpu.gr (Nat.le_trans hlo hpu.bw.size) (fun k hk => by injection hk with hk; subst hk; exact hM), fun k hk hk2 => ?_⟩
  have e : abk wm pg = abk w3 pg := (abk_same (hpu.gr.block pg (Nat.lt_of_lt_of_le hg3 hpu.bw.size) (by rintro e; injection e with e; exact hdk.apart.2.1 e))).trans (abk_same (hpu.bw.block pg hg3))
  rw [e] at hk2
  have l1 := (hss.lt k (.inr (.inr (.inl hk)))).1
  have l2 := (hdk.pl.abl k hk2).2
  omega
/-- The map was made ahead of the pool. -/
theorem opn_A {base d pg M : Nat} {most n : Int} {ps : List S108} {snaps : Int} {cap : Nat} {D D2 : DataW Unit} {sm : Int} {w3 wx wm : World} (hdk : DK w3 base d pg M most n ps snaps cap D) (hlo : base ≤ w3.heap.size) (hM : base ≤ M) (hpl : PL wx (w3.alloc (Obj.map #[] 0)).drew.heap.size (w3.alloc (Obj.map #[] 0)).drew.heap.size sm [] 0) (hb : Below (w3.alloc (Obj.map #[] 0)).drew.heap.size (w3.alloc (Obj.map #[] 0)).drew wx)
    (hpu : Pu w3 (wx.alloc (Obj.cells #[.bool false, .slice none 0 0, .pointer (some ⟨w3.heap.size + 1, 0, none⟩), .map (some w3.heap.size)] 136)) wm M (cap + 1) D2) : Opn base d pg M most n ps snaps (cap + 1) D2 sm wx.heap.size (w3.heap.size + 1) w3.heap.size w3 wm := by
  have e : (w3.alloc (Obj.map #[] 0)).drew.heap.size = w3.heap.size + 1 := World.size_alloc w3 _
  rw [e] at hpl hb
  have hs : w3.heap.size + 1 ≤ wx.heap.size := by have := hb.size; rw [e] at this; exact this
  have B := below_alloc (Below.refl wx.heap.size wx) (Obj.cells #[.bool false, .slice none 0 0, .pointer (some ⟨w3.heap.size + 1, 0, none⟩), .map (some w3.heap.size)] 136)
  have hm0 := World.ownsMap_made w3 Tryd.prog 3 (plainElem Tryd.prog 3 (H := Unit))
  have hmx : wx.ownsMap Tryd.prog 3 (plainElem Tryd.prog 3) w3.heap.size 0 (DataW.map [] : DataW Unit) := by
    obtain ⟨es, clock, hm, r⟩ := hm0
    exact ⟨es, clock, (hb.block w3.heap.size (by omega)).trans hm, r⟩
  exact opn_of hdk hlo hM ((hpl.lower (by omega)).below B) (hmx.alloc _) (heap_alloc_new wx _) (by omega) (Nat.le_refl _) hpu
/-- The pool was made ahead of the map. -/
theorem opn_B {base d pg M : Nat} {most n : Int} {ps : List S108} {snaps : Int} {cap : Nat} {D D2 : DataW Unit} {sm : Int} {w3 wx wm : World} (hdk : DK w3 base d pg M most n ps snaps cap D) (hlo : base ≤ w3.heap.size) (hM : base ≤ M) (hpl : PL wx w3.drew.heap.size w3.drew.heap.size sm [] 0) (hk : Below w3.heap.size w3 wx)
    (hpu : Pu w3 ((wx.alloc (Obj.map #[] 0)).alloc (Obj.cells #[.bool false, .slice none 0 0, .pointer (some ⟨w3.heap.size, 0, none⟩), .map (some wx.heap.size)] 136)) wm M (cap + 1) D2) : Opn base d pg M most n ps snaps (cap + 1) D2 sm (wx.heap.size + 1) w3.heap.size wx.heap.size w3 wm := by
  have hpl2 : PL wx w3.heap.size w3.heap.size sm [] 0 := hpl
  have hs := hk.size
  have B1 := below_alloc (Below.refl wx.heap.size wx) (Obj.map #[] 0)
  have B := below_alloc B1 (Obj.cells #[.bool false, .slice none 0 0, .pointer (some ⟨w3.heap.size, 0, none⟩), .map (some wx.heap.size)] 136)
  have hm0 := World.ownsMap_made wx Tryd.prog 3 (plainElem Tryd.prog 3 (H := Unit))
  have hn := heap_alloc_new (wx.alloc (Obj.map #[] 0)) (Obj.cells #[.bool false, .slice none 0 0, .pointer (some ⟨w3.heap.size, 0, none⟩), .map (some wx.heap.size)] 136)
  rw [World.size_alloc] at hn
  exact opn_of hdk hlo hM (hpl2.below B) (hm0.alloc _) hn (by omega) (by omega) hpu
theorem SS.lower {W : World} {base b2 sb : Nat} {most : Int} {s : Sn} (h : SS W base sb most s) (hb : b2 ≤ base) : SS W b2 sb most s :=
  ⟨h.hd, h.pl.lower hb, h.mp, Kd.R_lower h.by_ hb, Nat.le_trans hb h.lo.1, Nat.le_trans hb h.lo.2⟩
/-- A desk where a block of another kind changes. -/
theorem DK.only {W W' : World} {base d pg M : Nat} {most n : Int} {ps : List S108} {snaps : Int} {cap : Nat} {D : DataW Unit} (h : DK W base d pg M most n ps snaps cap D) {x : Nat} {a b : Int} (hx : Hn W x a b) (ho : ∀ k, k ≠ x → W'.heap[k]? = W.heap[k]?) : DK W' base d pg M most n ps snaps cap D := by
  obtain ⟨h1, hp, ⟨es, clock, hm, r⟩⟩ := h
  have hx' : W.heap[x]? = some (Obj.cells #[.int .i64 a, .int .i64 b] 40 (0, 0)) := hx
  refine ⟨(ho d ?_).trans h1, ?_, ⟨es, clock, (ho M ?_).trans hm, r⟩⟩
  · rintro rfl; rw [h1] at hx'; cases hx'
  · obtain ⟨g0, A, c, p1, p2⟩ := hp
    refine PL.same ⟨g0, A, c, p1, p2⟩ (ho pg ?_) (fun k hk => ho k ?_)
    · rintro rfl; rw [p1] at hx'; cases hx'
    · rintro rfl
      rw [abk_of ((blk_cell p1 1).trans (show _ = some (Value.slice A ps.length c) from rfl))] at hk
      obtain ⟨cells, hc⟩ := Kd.R_typed p2 k hk.symm
      rw [hc] at hx'; cases hx'
  · rintro rfl; rw [hm] at hx'; cases hx'
theorem SS.only {W W' : World} {base sb : Nat} {most : Int} {s : Sn} (h : SS W base sb most s) {x : Nat} (hx : x < base) (ho : ∀ k, k ≠ x → W'.heap[k]? = W.heap[k]?) : SS W' base sb most s :=
  h.same (fun k hk => ho k (by have := (h.lt k hk).1; omega))
/-- Pairs stand where the desk's map turns. -/
theorem Pu.hn {w3 W w' : World} {M n cap : Nat} {D D0 : DataW Unit} (h : Pu w3 W w' M n D) (hm : MP w3 M cap D0) {g : Nat} {a b : Int} (hh : Hn w3 g a b) : Hn w' g a b := by
  have hh' : w3.heap[g]? = some (Obj.cells #[.int .i64 a, .int .i64 b] 40 (0, 0)) := hh
  have hne : g ≠ M := by
    rintro rfl
    obtain ⟨es, clock, hm1, _⟩ := hm
    rw [hm1] at hh'; cases hh'
  exact (h.gr.block g (Nat.lt_of_lt_of_le (blk_lt hh') h.bw.size) (by rintro e; injection e with e; exact hne e)).trans ((h.bw.block g (blk_lt hh')).trans hh')
/-- What Open leaves, of the world ahead of it. -/
theorem Opn.whole {base d pg M : Nat} {most n : Int} {ps : List S108} {snaps : Int} {cap : Nat} {D : DataW Unit} {sm : Int} {sb sg mb x : Nat} {a b : Int} {w w3 wm wn : World} (h : Opn base d pg M most n ps snaps cap D sm sb sg mb w3 wm) (hf : DF pg M w w3) (hb : Below base w w3) (hx : Hn wm x a b) (hx0 : w.heap.size ≤ x) (hx3 : x < w3.heap.size) (hbx : base ≤ x)
    (ho : ∀ k, k ≠ x → wn.heap[k]? = wm.heap[k]?) (hs : wn.heap.size = wm.heap.size) (h1 : wn.os = wm.os) (h2 : wn.tape = wm.tape) (h3 : wn.output = wm.output) : Opn base d pg M most n ps snaps cap D sm sb sg mb w wn := by
  have dk := h.dk.only hx ho
  have hpx : pg ≠ x := by
    obtain ⟨g0, A, c, p1, p2⟩ := h.dk.pl
    have hx' : wm.heap[x]? = some (Obj.cells #[.int .i64 a, .int .i64 b] 40 (0, 0)) := hx
    rintro rfl; rw [p1] at hx'; cases hx'
  have e : abk wn pg = abk wm pg := abk_same (ho pg hpx)
  have e2 : abk wn sg = abk wm sg := abk_same (ho sg (by
    have := (h.ss.lt sg (.inr (.inl rfl))).1
    omega))
  have f := hf.trans h.df
  refine ⟨dk, (h.ss.only hx3 ho).lower hf.size, ⟨by rw [hs]; exact f.size, fun k hk k1 k2 k3 => (ho k (by omega)).trans (f.block k hk k1 k2 k3), by rw [e]; exact f.row⟩, ?_, fun k hk => by rw [e]; exact h.fr k (by rw [← e2]; exact hk)⟩
  have g := hb.trans h.be
  exact ⟨h1.trans g.os, h2.trans g.tape, h3.trans g.output, by rw [hs]; exact g.size, fun k hk => (ho k (by omega)).trans (g.block k hk)⟩
set_option maxHeartbeats 8000000 in
set_option maxRecDepth 100000 in
theorem open_ok (d base pg M : Nat) (most n : Int) (ps : List S108) (snaps : Int) (cap : Nat) (D : DataW Unit) (i : Nat) (w : World) (h : DK w base d pg M most n ps snaps cap D) (hlo : base ≤ w.heap.size) (hM : base ≤ M) (hcap : cap < 1000) (hi : i ≤ ps.length) (hf : ∀ j, j < i → (plc ps j).f1 = true) (hf2 : i < ps.length → (plc ps i).f1 = false) (hm : (i : Int) ≠ most) (hl : ps.length ≤ 1000) (ht0 : 0 ≤ turnOf ps i) (ht1 : turnOf ps i ≤ 1000000) (hn0 : -1000000 ≤ n) (hn1 : n ≤ 1000000) :
    Calls Tryd.prog 40 #[.pointer (some ⟨d, 0, none⟩)] w fun e w' => ∃ sb sg mb : Nat, e = .returned (.tuple #[.agg #[.int .i64 (i : Int), .int .i64 (turnOf ps i)], .nilIface]) ∧ Opn base d pg M most (n + 1) (tookL ps i) snaps (cap + 1) (D.put (.int .i64 (i : Int)) (.lit (.int .i64 (sb : Int)))) (min (max snaps 0) 10000) sb sg mb w w' := by
  have B1 := below_alloc (Below.refl w.heap.size w) (.cells #[.int .i64 0, .int .i64 0] 40)
  have HN := Lib.hid (show Hn (w.alloc (.cells #[.int .i64 0, .int .i64 0] 40)) w.heap.size 0 0 from heap_alloc_new w _)
  have HD := Lib.hid (h.below B1)
  have HB := Lib.hid B1
  have HA := Lib.hid (And.intro hi (And.intro hf (And.intro hf2 (And.intro hm (And.intro hl (And.intro ht0 (And.intro ht1 (And.intro hn0 hn1))))))))
  have h0 := h
  clear B1 h hi hf hf2 hm hl ht0 ht1 hn0 hn1
  have q0 := (blk_cell HD.out.hd 0).trans (show _ = some (Value.pointer (some ⟨pg, 0, none⟩)) from rfl)
  go_enter Tryd.func40, Tryd.ntmps40
  go_wp2_with (fail)
  generalize hw1 : w.alloc (.cells #[.int .i64 0, .int .i64 0] 40) = w1 at *
  clear hw1
  obtain ⟨hi, hf, hf2, hm, hl, ht0, ht1, hn0, hn1⟩ := HA.out
  go_at_call 16
  (with_reducible refine (take_oq pg base most n ps i _ HD.out.pl hi hf hf2 hm hl ht0 ht1 hn0 hn1).mono ?_)
  rintro e w2 ⟨rfl, h2, f2⟩
  clear hi hf hf2 hm hl ht0 ht1 hn0 hn1
  generalize htn : turnOf ps i = tn at *
  have HTN := Lib.hid htn
  clear htn
  have B2 := below_alloc (Below.refl w2.heap.size w2) (.cells #[.int .i64 (i : Int), .int .i64 tn] 40)
  have HX := Lib.hid (show Hn (w2.alloc (.cells #[.int .i64 (i : Int), .int .i64 tn] 40)) w2.heap.size (i : Int) tn from heap_alloc_new w2 _)
  have HP2 := Lib.hid (h2.below B2)
  have HD2 := Lib.hid (blk_below ((f2.fr.2.2 d _ _ _ HD.out.hd (by decide)).trans HD.out.hd) B2)
  have HM3 := Lib.hid (show MP (w2.alloc (.cells #[.int .i64 (i : Int), .int .i64 tn] 40)) M cap D from World.ownsMap.alloc (mp_oth HD.out f2.oth) _)
  have HR3 := Lib.hid (show Hn (w2.alloc (.cells #[.int .i64 (i : Int), .int .i64 tn] 40)) w.heap.size 0 0 from blk_below ((f2.fr.2.2 w.heap.size _ _ _ HN.out (by decide)).trans HN.out) B2)
  have HF3 := Lib.hid (((DF.of_below (M := M) HB.out (h0.pl.glt)).trans (DF.of_oth f2.oth f2.fr.1.size)).trans (DF.of_below B2 (Nat.lt_of_lt_of_le HD.out.pl.glt f2.fr.1.size)))
  have HL3 := Lib.hid (((HB.out.mono hlo).trans f2.fr.1).trans (B2.mono (Nat.le_trans (Nat.le_trans hlo HB.out.size) f2.fr.1.size)))
  have HDK := Lib.hid (show DK (w2.alloc (.cells #[.int .i64 (i : Int), .int .i64 tn] 40)) base d pg M most (n + 1) (tookL ps i) snaps cap D from ⟨HD2.out, HP2.out, HM3.out⟩)
  have HLM := Lib.hid (And.intro hlo hM)
  clear h2 B2 q0 h0 hlo hM
  go_upto_region 4 with (fail)
  generalize w2.alloc (.cells #[.int .i64 (i : Int), .int .i64 tn] 40) = w3 at *
  have c1 := (blk_cell HD2.out 1).trans (show _ = some (Value.int .i64 snaps) from rfl)
  have c2 := (blk_cell HD2.out 2).trans (show _ = some (Value.map (some M)) from rfl)
  have k0 := (blk_cell HX.out 0).trans (show _ = some (Value.int .i64 (i : Int)) from rfl)
  have hmk := mk123
  have HWF := Lib.hid (show (Lit.int .i64 (i : Int)).wf = true from wf_i64 (by omega) (by have := HA.out.1; have := HA.out.2.2.2.2.1; omega))
  have hdM : d ≠ M := by
    rintro rfl
    obtain ⟨es, clock, hm, _⟩ := HM3.out
    rw [HD2.out] at hm; cases hm
  have hxM : w2.heap.size ≠ M := by
    intro e
    obtain ⟨es, clock, hm, _⟩ := HM3.out
    have hx := HX.out
    unfold Hn at hx
    rw [e, hm] at hx; cases hx
  have HNM := Lib.hid (And.intro hdM hxM)
  clear hdM hxM
  have HCP := Lib.hid (show cap < maxLen by show cap < 9223372036854775807; omega)
  have HLW := Lib.hid (show base ≤ w3.heap.size from Nat.le_trans HLM.out.1 HF3.out.size)
  go_cut [4] (fun v4 wc => v4 = .pointer (some ⟨w2.heap.size, 0, none⟩) ∧ ∃ sb sg mb : Nat, Hid (Opn base d pg M most (n + 1) (tookL ps i) snaps (cap + 1) (D.put (.int .i64 (i : Int)) (.lit (.int .i64 (sb : Int)))) (min (max snaps 0) 10000) sb sg mb w3 wc) ∧ Hid (Hn wc w2.heap.size (i : Int) tn) ∧ Hid (Hn wc w.heap.size 0 0))
  case first =>
    have HK1 := Lib.hid (Below.refl w3.heap.size w3)
    go_region_held3 (fun w' => w'.cell? ⟨d, 1, none⟩ = some (.int .i64 snaps) ∧ w'.cell? ⟨d, 2, none⟩ = some (.map (some M)) ∧ w'.cell? ⟨w2.heap.size, 0, none⟩ = some (.int .i64 (i : Int))) (first | go_keep | exact ⟨c1, c2, k0⟩ | exact ⟨HPU.out.cell c1 HNM.out.1, HPU.out.cell c2 HNM.out.1, HPU.out.cell k0 HNM.out.2⟩ | exact ⟨(HK1.out.cell (cell_lt c1)).trans c1, (HK1.out.cell (cell_lt c2)).trans c2, (HK1.out.cell (cell_lt k0)).trans k0⟩) (first | (go_at_call 15; (with_reducible refine (newpool_calls snaps _).mono ?_); rintro e wx ⟨rfl, hpl, hb⟩; have HPL := Lib.hid hpl; first | (have HK1 := Lib.hid (below_step HK1.out hb)) | (have HK1 := Lib.hid (show Below w3.heap.size w3 wx from below_step (below_drew1 HK1.out) hb)) | (have HK1 := Lib.hid (show Below w3.heap.size w3 wx from below_step (below_alloc (below_drew1 HK1.out) _) hb))) | (refine upon_put (w3 := w3) ?hbw HM3.out HCP.out HWF.out ?_; (case hbw => repeat (first | exact HK1.out | (with_reducible first | apply below_alloc | apply below_drew1))); intro wm hm1; have HPU := Lib.hid hm1; clear hm1; go_simp))
    all_goals (
      go_wp2
      go_meet
      case rel => first
        | exact ⟨rfl, _, _, _, Lib.hid (opn_A HDK.out HLW.out HLM.out.2 hpl hb HPU.out), Lib.hid (HPU.out.hn HM3.out HX.out), Lib.hid (HPU.out.hn HM3.out HR3.out)⟩
        | exact ⟨rfl, _, _, _, Lib.hid (opn_B HDK.out HLW.out HLM.out.2 HPL.out HK1.out HPU.out), Lib.hid (HPU.out.hn HM3.out HX.out), Lib.hid (HPU.out.hn HM3.out HR3.out)⟩)
  case rest =>
    obtain ⟨rfl, sb, sg, mb, HO, HXc, HRc⟩ := hcut
    have hx0 := (blk_cell HXc.out 0).trans (show _ = some (Value.int .i64 (i : Int)) from rfl)
    have hx1 := (blk_cell HXc.out 1).trans (show _ = some (Value.int .i64 tn) from rfl)
    have hr0 := (blk_cell HRc.out 0).trans (show _ = some (Value.int .i64 0) from rfl)
    have hr1 := (blk_cell HRc.out 1).trans (show _ = some (Value.int .i64 0) from rfl)
    have hz0 := blk_frozen HRc.out 0
    have hz1 := blk_frozen HRc.out 1
    have hlt : w.heap.size < w3.heap.size := blk_lt HR3.out
    have HFIN := Lib.hid (HO.out.whole HF3.out HL3.out HRc.out (Nat.le_refl _) hlt HLM.out.1 (wn := (wc.setCell ⟨w.heap.size, 0, none⟩ (.int .i64 (i : Int))).setCell ⟨w.heap.size, 1, none⟩ (.int .i64 tn)) (fun k hk => (Below.heap_setCell _ ⟨w.heap.size, 1, none⟩ _ k hk).trans (Below.heap_setCell wc ⟨w.heap.size, 0, none⟩ _ k hk)) (by simp [World.setCell]) rfl rfl rfl)
    have hB := blk_set (blk_set HRc.out 0 (.int .i64 (i : Int))) 1 (.int .i64 tn)
    have r0 := (blk_cell hB 0).trans (show _ = some (Value.int .i64 (i : Int)) from rfl)
    have r1 := (blk_cell hB 1).trans (show _ = some (Value.int .i64 tn) from rfl)
    clear hB hlt HO
    go_wp2_with (fail)
    exact bodyPost_ret (v := .tuple #[.agg #[.int .i64 (i : Int), .int .i64 tn], .nilIface]) (by simp [results, Tryd.results40, go_sem, r0, r1]) rfl ⟨_, _, _, by rw [HTN.out], HFIN.out⟩
end Go.Proofs.YtphaaagcdjpceaaDoor
