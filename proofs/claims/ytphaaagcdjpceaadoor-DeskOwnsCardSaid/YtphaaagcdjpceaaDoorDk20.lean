/- DeskOwns: facts ahead of the walk. -/
import Derived.Test.YtphaaagcdjpceaaDoorDk19
import Derived.Test.YtphaaagcdjpceaaDoorPu0
import Derived.Deep.RegionHeld3
import Derived.Deep.QuietTactic
import Derived.BigQuiet
namespace Go.Proofs.YtphaaagcdjpceaaDoor
open Go.RowKit Go.Extern.Stop Go.Stop Go.Extern Go.Proofs.YtphaaagcdjpceaaDoorW.PrintWords Go.Proofs.YtphaaagcdjpceaaDoorW.PrintLast Go.Proofs.YtphaaagcdjpceaaDoorW.PrintMore
open Go.Maps (Keyed)
set_option linter.unusedVariables false
section
variable {w W : World} {d pg M : Nat}
theorem oopenA (h : DS w W d pg M 2 0 [] 20 0 (.map []) 20 F0) : Calls Tryd.prog 40 #[.pointer (some ⟨d, 0, none⟩)] W fun e w' => ∃ p sg mb : Nat, e = .returned (.tuple #[.agg #[.int .i64 0, .int .i64 1], .nilIface]) ∧ DS w w' d pg M 2 1 [⟨1, true⟩] 20 1 (D1 p) 20 (upF F0 0 (p, newS sg mb)) ∧ Keeps DT W w' := by
  refine (dopen h (by decide) 0 (fun h => by simp [hasI, Go.Maps.has] at h) (by decide) (by decide) (fun j hj => absurd hj (by omega)) (fun h => absurd h (by simp)) (by decide) (by decide) (by decide) (by decide) (by decide) (by decide)).mono ?_
  rintro e w' ⟨p, sg, mb, rfl, h1, h2⟩
  exact ⟨p, sg, mb, rfl, h1, h2⟩
theorem oopenB {p sg mb : Nat} (h : DS w W d pg M 2 1 [⟨1, true⟩] 20 1 (D1 p) 20 (upF F0 0 (p, newS sg mb))) : Calls Tryd.prog 40 #[.pointer (some ⟨d, 0, none⟩)] W fun e w' => ∃ q sg2 mb2 : Nat, e = .returned (.tuple #[.agg #[.int .i64 1, .int .i64 1], .nilIface]) ∧ OD w w' d pg M p q (newS sg mb) (newS sg2 mb2) ∧ Keeps DT W w' := by
  refine (dopen h (by decide) 1 (fun h => by simp [hasI, Go.Maps.has, Lit.sameKey] at h) (by decide) (by decide) (fun j hj => by
    obtain rfl : j = 0 := by omega
    rfl) (fun h => absurd h (by simp)) (by decide) (by decide) (by decide) (by decide) (by decide) (by decide)).mono ?_
  rintro e w' ⟨q, sg2, mb2, rfl, h1, h2⟩
  rw [show ((1 : Nat) : Int) = 1 from rfl, F2_mk] at h1
  exact ⟨q, sg2, mb2, rfl, h1, h2⟩
theorem osendA {p q sg mb sg2 mb2 : Nat} (h : OD w W d pg M p q (newS sg mb) (newS sg2 mb2)) (A : Option Addr) (hb : Kd.C (Kd.int .u8) W A [(97 : Int)].length [97]) :
    Calls Tryd.prog 41 #[.pointer (some ⟨d, 0, none⟩), .agg #[.int .i64 0, .int .i64 1], .slice A 1 1] W fun e w' => ∃ v, e = .returned .nilIface ∧ OD w w' d pg M p q (sT sg mb v 97 0 (.map [])) (newS sg2 mb2) ∧ Keeps DT W w' := by
  refine (dsend1 h (p := 0) (t := 1) rfl rfl (hasI_E2.2 (by simp)) (by rw [F2_0]; rfl) A 97 hb).mono ?_
  rintro e w' ⟨v, rfl, h1, h2⟩
  rw [F2_0, F2_up0] at h1
  exact ⟨v, rfl, h1, h2⟩
theorem osendB {p q sg mb sg2 mb2 : Nat} {v : Value} (h : OD w W d pg M p q (sT sg mb v 97 0 (.map [])) (newS sg2 mb2)) (A : Option Addr) (hb : Kd.C (Kd.int .u8) W A [(98 : Int)].length [98]) :
    Calls Tryd.prog 41 #[.pointer (some ⟨d, 0, none⟩), .agg #[.int .i64 1, .int .i64 1], .slice A 1 1] W fun e w' => ∃ v2, e = .returned .nilIface ∧ OD w w' d pg M p q (sT sg mb v 97 0 (.map [])) (sT sg2 mb2 v2 98 0 (.map [])) ∧ Keeps DT W w' := by
  refine (dsend1 h (p := 1) (t := 1) rfl rfl (hasI_E2.2 (by simp)) (by rw [F2_1]; rfl) A 98 hb).mono ?_
  rintro e w' ⟨v2, rfl, h1, h2⟩
  rw [F2_1, F2_up1] at h1
  exact ⟨v2, rfl, h1, h2⟩
end
/-- An element of a row that came in. -/
theorem InRow.get {w : World} {A : Option Addr} {la ca : Nat} {zs : List Int} (h : InRow w A la ca zs) (i : Nat) (hi : i < la) : ∃ x, A = some x ∧ w.cell? (x.add i) = some (.int .i64 (zs.getD i 0)) ∧ (Lit.int .i64 (zs.getD i 0)).wf = true := by
  rcases h with ⟨_, h, _⟩ | ⟨x, h1, h2, h3, h4, h5, h6⟩
  · omega
  · refine ⟨x, h1, h5 i (by omega), ?_⟩
    have : i < zs.length := by omega
    rw [List.getD_eq_getElem?_getD, List.getElem?_eq_getElem this]
    exact h6 _ (List.getElem_mem this)
theorem take_next {zs : List Int} {j : Nat} (h : j < zs.length) : zs.take (j + 1) = zs.take j ++ [zs.getD j 0] := by
  rw [List.take_add_one, List.getD_eq_getElem?_getD, List.getElem?_eq_getElem h]; rfl
theorem cells_set2 {wx : World} {hb : Nat} {a : Addr} {r u v : Value} (hc : wx.cell? a = some r) (hne : a.block ≠ hb) : ((wx.setCell ⟨hb, 0, none⟩ u).setCell ⟨hb, 1, none⟩ v).cell? a = some r := by
  rw [World.cell?_of_block (a := a) ((Below.heap_setCell _ ⟨hb, 1, none⟩ v a.block hne).trans (Below.heap_setCell wx ⟨hb, 0, none⟩ u a.block hne))]
  exact hc
/-- So many snapshots' handles. -/
def hsOf (n : Nat) : List S40 := (List.range n).map (fun j : Nat => ⟨(j : Int), 1⟩)
theorem hsOf_len (n : Nat) : (hsOf n).length = n := by simp [hsOf]
theorem hsOf_snoc (n : Nat) : hsOf n ++ [⟨(n : Int), 1⟩] = hsOf (n + 1) := by simp [hsOf, List.range_succ]
theorem hsOf_at {n j : Nat} (h : j < n) : hat (hsOf n) j = ⟨(j : Int), 1⟩ := by simp [hat, hsOf, h]
/-- The two rows of handles; x: a block that they are not. -/
structure SN (W : World) (B x z : Nat) (r0 r1 : Value) (n0 n1 : Nat) : Prop where
  hz : W.heap[z]? = some (.cells #[r0, r1] 82 (0, 0))
  h0 : Kd.R k40 40 W B (fun k => k ≠ x) r0 (hsOf n0)
  h1 : Kd.R k40 40 W B (fun k => k ≠ x) r1 (hsOf n1)
  ne : ∀ k, r0.ownBlock = some k → r1.ownBlock ≠ some k
theorem SN.keeps {W W1 : World} {B x z : Nat} {r0 r1 : Value} {n0 n1 : Nat} (h : SN W B x z r0 r1 n0 n1) (hk : Keeps DT W W1) : SN W1 B x z r0 r1 n0 n1 :=
  ⟨(hk.2 z _ _ _ h.hz (by decide)).trans h.hz, R_keeps h.h0 hk (fun q hq => by rw [E40 q hq]; decide), R_keeps h.h1 hk (fun q hq => by rw [E40 q hq]; decide), h.ne⟩
theorem SN.below {W W1 : World} {B x z : Nat} {r0 r1 : Value} {n0 n1 : Nat} (h : SN W B x z r0 r1 n0 n1) (hb : Below W.heap.size W W1) : SN W1 B x z r0 r1 n0 n1 := h.keeps (Keeps.below hb)
/-- a[:min(len(a), 20)]. -/
theorem slc20 {w : World} {A : Option Addr} {la ca : Nat} {zs : List Int} (h : InRow w A la ca zs) : ∃ m : Nat, min (la : Int) 20 = (m : Int) ∧ m ≤ 20 ∧ m ≤ la ∧ la ≤ ca ∧ (zs.take m).length = m ∧ ∀ W, (Instr.slice 35 (.slice A la ca) none (some (.int .i64 (m : Int))) none).run Tryd.prog W = .ok (.slice A m ca) W := by
  have hl : la ≤ ca ∧ zs.length = ca := by
    rcases h with ⟨_, rfl, rfl, rfl⟩ | ⟨x, h1, h2, h3, h4, h5, h6⟩
    · exact ⟨Nat.le_refl _, rfl⟩
    · exact ⟨h2, h4⟩
  refine ⟨min la 20, by omega, by omega, by omega, hl.1, by rw [List.length_take]; omega, fun W => ?_⟩
  have ht : Tryd.prog.underlying 35 = some (.slice (Tryd.prog.elem 35)) := by kernel_rfl
  have hz : (sizeOf (Tryd.prog.elem 35)).run Tryd.prog W = .ok 1 W := by kernel_rfl
  rw [run_slice_h W 35 A la ca ht .i64 ((min la 20 : Nat) : Int) (by omega) (by omega), hz]
  have hs : sliced A 0 (((min la 20 : Nat) : Int)).toNat ca 1 = .slice A (min la 20) ca := by
    unfold sliced
    have e : (if ca = 0 then A else A.map (·.add (0 * 1))) = A := by
      split
      · rfl
      · cases A <;> rfl
    rw [e, Int.toNat_natCast]; rfl
  show Result.ok _ W = _
  rw [hs]
theorem pair2 (w : World) (x y : Obj) : Below w.heap.size w ((w.alloc x).alloc y).drew ∧ ((w.alloc x).alloc y).drew.heap[w.heap.size]? = some x ∧ ((w.alloc x).alloc y).drew.heap[w.heap.size + 1]? = some y := by
  have h1 := heap_alloc_new w x
  have h2 := heap_alloc_new (w.alloc x) y
  rw [World.size_alloc] at h2
  refine ⟨below_drew (below_alloc (below_alloc (Below.refl _ _) x) y), ?_, h2⟩
  exact (Below.heap_alloc (w.alloc x) y w.heap.size (by rw [World.size_alloc]; omega)).trans h1
theorem SS.kinds2 {W : World} {base sb : Nat} {sm : Int} {s : Sn} (h : SS W base sb sm s) (k : Nat) (hk : foot W sb s k) (cs : Array Value) (t : Nat) (fr : Nat × Nat) (e : W.heap[k]? = some (Obj.cells cs t fr)) : t = 136 ∨ t = 106 ∨ t = 108 ∨ t = 5 := by
  obtain ⟨h1, ⟨g0, A, c, p1, p2⟩, ⟨es, clock, hm, r⟩, h4, h5⟩ := h
  rcases hk with rfl | rfl | hk | rfl | hk
  · rw [h1] at e; injection e with e; injection e with _ e _; exact .inl e.symm
  · rw [p1] at e; injection e with e; injection e with _ e _; exact .inr (.inl e.symm)
  · rw [abk_of ((blk_cell p1 1).trans (show _ = some (Value.slice A s.ps.length c) from rfl))] at hk
    obtain ⟨cells, hc⟩ := Kd.R_typed p2 k hk.symm
    rw [hc] at e; injection e with e; injection e with _ e _; exact .inr (.inr (.inl e.symm))
  · rw [hm] at e; cases e
  · obtain ⟨cells, hc⟩ := Kd.R_typed h4 k hk.symm
    rw [hc] at e; injection e with e; injection e with _ e _; exact .inr (.inr (.inr e.symm))
theorem DK.kinds2 {W : World} {base d pg M : Nat} {most n : Int} {ps : List S108} {snaps : Int} {cap : Nat} {D : DataW Unit} (h : DK W base d pg M most n ps snaps cap D) (k : Nat) (hk : k = d ∨ k = pg ∨ some k = abk W pg ∨ k = M) (cs : Array Value) (t : Nat) (fr : Nat × Nat) (e : W.heap[k]? = some (Obj.cells cs t fr)) : t = 133 ∨ t = 106 ∨ t = 108 := by
  obtain ⟨h1, ⟨g0, A, c, p1, p2⟩, ⟨es, clock, hm, r⟩⟩ := h
  rcases hk with rfl | rfl | hk | rfl
  · rw [h1] at e; injection e with e; injection e with _ e _; exact .inl e.symm
  · rw [p1] at e; injection e with e; injection e with _ e _; exact .inr (.inl e.symm)
  · rw [abk_of ((blk_cell p1 1).trans (show _ = some (Value.slice A ps.length c) from rfl))] at hk
    obtain ⟨cells, hc⟩ := Kd.R_typed p2 k hk.symm
    rw [hc] at e; injection e with e; injection e with _ e _; exact .inr (.inr e.symm)
  · rw [hm] at e; cases e
section
variable {W W1 : World} {base d pg M : Nat} {most n : Int} {ps : List S108} {snaps : Int} {cap : Nat} {D : DataW Unit} {sm : Int} {F : Int → Nat × Sn}
/-- One block of another kind has turned, or none. -/
theorem Dsk.but {r : Option Nat} (h : Dsk W base d pg M most n ps snaps cap D sm F) (hr : ∀ k, r = some k → ∃ cs t fr, W.heap[k]? = some (Obj.cells cs t fr) ∧ (t = 40 ∨ t = 82)) (ho : ∀ k, k < W.heap.size → some k ≠ r → W1.heap[k]? = W.heap[k]?) : Dsk W1 base d pg M most n ps snaps cap D sm F := by
  have hsm : ∀ x, hasI D x → ∀ k, foot W (F x).1 (F x).2 k → W1.heap[k]? = W.heap[k]? := fun x hx k hk => ho k ((h.at_ x hx).2.lt k hk).2 (fun e => by
    obtain ⟨cs, t, fr, hc, ht⟩ := hr k e.symm
    have := (h.at_ x hx).2.kinds2 k hk cs t fr hc
    rcases ht with rfl | rfl <;> exact absurd this (by decide))
  have hdk : ∀ k, (k = d ∨ k = pg ∨ some k = abk W pg ∨ k = M) → W1.heap[k]? = W.heap[k]? := fun k hk => ho k (h.dk.lt k hk) (fun e => by
    obtain ⟨cs, t, fr, hc, ht⟩ := hr k e.symm
    have := h.dk.kinds2 k hk cs t fr hc
    rcases ht with rfl | rfl <;> exact absurd this (by decide))
  have hf : ∀ x, hasI D x → ∀ k, foot W1 (F x).1 (F x).2 k ↔ foot W (F x).1 (F x).2 k := fun x hx k => foot_same (hsm x hx _ (.inr (.inl rfl))) k
  have ha : abk W1 pg = abk W pg := abk_same (hdk pg (.inr (.inl rfl)))
  refine ⟨h.dk.same hdk, fun x hx => ⟨(h.at_ x hx).1, (h.at_ x hx).2.same (hsm x hx)⟩, fun x hx k hk => ?_, fun x y hx hy hne k hk hk2 => ?_⟩
  · rw [ha]; exact h.far x hx k ((hf x hx k).1 hk)
  · exact h.apart x y hx hy hne k ((hf x hx k).1 hk) ((hf y hy k).1 hk2)
end
section
variable {w W W1 : World} {d pg M : Nat} {most n : Int} {ps : List S108} {snaps : Int} {cap : Nat} {D : DataW Unit} {sm : Int} {F : Int → Nat × Sn}
theorem DS.but {r : Option Nat} (h : DS w W d pg M most n ps snaps cap D sm F) (hr : ∀ k, r = some k → ∃ cs t fr, W.heap[k]? = some (Obj.cells cs t fr) ∧ (t = 40 ∨ t = 82)) (ho : ∀ k, k < W.heap.size → some k ≠ r → W1.heap[k]? = W.heap[k]?) (hb : Below w.heap.size w W1) : DS w W1 d pg M most n ps snaps cap D sm F := ⟨h.ds.but hr ho, hb, h.lm⟩
/-- A cell of a block of another kind is stored to. -/
theorem DS.cell {g t : Nat} {cs : Array Value} {fr : Nat × Nat} (h : DS w W d pg M most n ps snaps cap D sm F) (hg : W.heap[g]? = some (Obj.cells cs t fr)) (ht : t = 40 ∨ t = 82) (hlo : w.heap.size ≤ g) (j : Nat) (u : Value) : DS w (W.setCell ⟨g, j, none⟩ u) d pg M most n ps snaps cap D sm F :=
  h.but (r := some g) (fun k hk => by injection hk with hk; subst hk; exact ⟨cs, t, fr, hg, ht⟩) (fun k hk hne => Below.heap_setCell W ⟨g, j, none⟩ u k (fun e => hne (by rw [e]))) (h.bl.setCell (p := ⟨g, j, none⟩) hlo u)
/-- A row of handles has grown. -/
theorem DS.grown {v : Value} {xs : List S40} {ok : Nat → Prop} {B : Nat} (h : DS w W d pg M most n ps snaps cap D sm F) (hv : Kd.R k40 40 W B ok v xs) (hg : W.grownBy W1 v.ownBlock) (hb : Below w.heap.size w W1) : DS w W1 d pg M most n ps snaps cap D sm F :=
  h.but (fun k hk => by
    obtain ⟨cells, hc⟩ := Kd.R_typed hv k hk
    exact ⟨_, _, _, hc, .inl rfl⟩) (fun k hk hne => hg.block k hk hne) hb
end
theorem keeps_set2 {wr wx : World} (hk : Keeps DT wr wx) (u v : Value) : Keeps DT wr ((wx.setCell ⟨wr.heap.size, 0, none⟩ u).setCell ⟨wr.heap.size, 1, none⟩ v) :=
  ⟨by simpa [World.setCell] using hk.1, fun k cs t fr hc ht => by
    have hne : k ≠ wr.heap.size := by have := blk_lt hc; omega
    exact ((Below.heap_setCell _ ⟨wr.heap.size, 1, none⟩ v k hne).trans (Below.heap_setCell wx ⟨wr.heap.size, 0, none⟩ u k hne)).trans (hk.2 k cs t fr hc ht)⟩
theorem hn_set2 {W : World} {g : Nat} {a b p t : Int} (h : Hn W g a b) : Hn ((W.setCell ⟨g, 0, none⟩ (.int .i64 p)).setCell ⟨g, 1, none⟩ (.int .i64 t)) g p t := blk_set (blk_set h 0 (.int .i64 p)) 1 (.int .i64 t)
theorem DS.set2 {w W : World} {d pg M : Nat} {most n : Int} {ps : List S108} {snaps : Int} {cap : Nat} {D : DataW Unit} {sm : Int} {F : Int → Nat × Sn} (h : DS w W d pg M most n ps snaps cap D sm F) {g : Nat} {a b : Int} (hg : Hn W g a b) (hlo : w.heap.size ≤ g) (u v : Value) : DS w ((W.setCell ⟨g, 0, none⟩ u).setCell ⟨g, 1, none⟩ v) d pg M most n ps snaps cap D sm F :=
  (h.cell hg (.inl rfl) hlo 0 u).cell (blk_set hg 0 u) (.inl rfl) hlo 1 v
theorem EE40 : k40.E = [] := by
  cases h : k40.E with
  | nil => rfl
  | cons q r =>
    have : (k40.E).length = 0 := rfl
    rw [h] at this; simp at this
theorem SN.row0 {W : World} {B x z n0 n1 : Nat} {r0 r1 : Value} (h : SN W B x z r0 r1 n0 n1) : Kd.R k40 40 W B (fun k => r1.ownBlock ≠ some k ∧ k ≠ x) r0 (hsOf n0) := Kd.R_mono (Kd.R_tight EE40 h.h0) (fun k hk => ⟨h.ne k hk.symm, h.h0.1 k hk.symm⟩)
theorem SN.row1 {W : World} {B x z n0 n1 : Nat} {r0 r1 : Value} (h : SN W B x z r0 r1 n0 n1) : Kd.R k40 40 W B (fun k => r0.ownBlock ≠ some k ∧ k ≠ x) r1 (hsOf n1) := Kd.R_mono (Kd.R_tight EE40 h.h1) (fun k hk => ⟨fun e => h.ne k e hk.symm, h.h1.1 k hk.symm⟩)
theorem SN.fresh0 {W : World} {B x z n0 n1 : Nat} {r0 r1 : Value} (h : SN W B x z r0 r1 n0 n1) (hx : x < W.heap.size) (k : Nat) (hk : W.heap.size ≤ k) : r1.ownBlock ≠ some k ∧ k ≠ x := ⟨fun e => by have := Kd.R_lt h.h1 k e; omega, by omega⟩
theorem SN.fresh1 {W : World} {B x z n0 n1 : Nat} {r0 r1 : Value} (h : SN W B x z r0 r1 n0 n1) (hx : x < W.heap.size) (k : Nat) (hk : W.heap.size ≤ k) : r0.ownBlock ≠ some k ∧ k ≠ x := ⟨fun e => by have := Kd.R_lt h.h0 k e; omega, by omega⟩
theorem SN.app0 {W w9 : World} {B x z n0 n1 : Nat} {r0 r1 v9 : Value} (h : SN W B x z r0 r1 n0 n1) (ho : Kd.R k40 40 w9 B (fun k => r1.ownBlock ≠ some k ∧ k ≠ x) v9 (hsOf n0 ++ [⟨(n0 : Int), 1⟩])) (hg : W.grownBy w9 r0.ownBlock) : SN (w9.setCell ⟨z, 0, none⟩ v9) B x z v9 r1 (n0 + 1) n1 := by
  have hne : some z ≠ r0.ownBlock := Kd.R_ne h.h0 h.hz (by decide)
  have hz9 := (hg.block z (blk_lt h.hz) hne).trans h.hz
  have h82 : ∀ q, q ∈ 40 :: k40.E → q ≠ 82 := fun q hq => by rw [E40 q hq]; decide
  refine ⟨blk_set hz9 0 v9, ?_, ?_, fun k hk => (ho.1 k hk).1⟩
  · rw [← hsOf_snoc]; exact Kd.R_mono (Kd.R_set ho hz9 h82 0 v9) (fun _ h => h.2)
  · exact Kd.R_mono (Kd.R_set (Kd.R_grown (Kd.R_tight EE40 h.h1) hg (fun k hk e => h.ne k e.symm hk.symm)) hz9 h82 0 v9) (fun k hk => h.h1.1 k hk.symm)
theorem SN.app1 {W w9 : World} {B x z n0 n1 : Nat} {r0 r1 v9 : Value} (h : SN W B x z r0 r1 n0 n1) (ho : Kd.R k40 40 w9 B (fun k => r0.ownBlock ≠ some k ∧ k ≠ x) v9 (hsOf n1 ++ [⟨(n1 : Int), 1⟩])) (hg : W.grownBy w9 r1.ownBlock) : SN (w9.setCell ⟨z, 1, none⟩ v9) B x z r0 v9 n0 (n1 + 1) := by
  have hne : some z ≠ r1.ownBlock := Kd.R_ne h.h1 h.hz (by decide)
  have hz9 := (hg.block z (blk_lt h.hz) hne).trans h.hz
  have h82 : ∀ q, q ∈ 40 :: k40.E → q ≠ 82 := fun q hq => by rw [E40 q hq]; decide
  refine ⟨blk_set hz9 1 v9, ?_, ?_, fun k hk hk2 => (ho.1 k hk2).1 hk⟩
  · exact Kd.R_mono (Kd.R_set (Kd.R_grown (Kd.R_tight EE40 h.h0) hg (fun k hk e => h.ne k hk.symm e.symm)) hz9 h82 1 v9) (fun k hk => h.h0.1 k hk.symm)
  · rw [← hsOf_snoc]; exact Kd.R_mono (Kd.R_set ho hz9 h82 1 v9) (fun _ h => h.2)
/-- Where an append's own block is elsewhere. -/
theorem grown_blk {W w9 : World} {B x g t z j : Nat} {cs cz : Array Value} {r v9 : Value} {xs : List S40} (hr : Kd.R k40 40 W B (fun k => k ≠ x) r xs) (hg : W.grownBy w9 r.ownBlock) (hz : W.heap[z]? = some (Obj.cells cz 82 (0, 0))) (hc : W.heap[g]? = some (Obj.cells cs t (0, 0))) (ht : t = 35 ∨ (t = 40 ∧ (g = x ∨ ∀ k, r.ownBlock = some k → k ≠ g))) : (w9.setCell ⟨z, j, none⟩ v9).heap[g]? = some (Obj.cells cs t (0, 0)) := by
  have hgz : g ≠ z := by
    rintro rfl
    rw [hz] at hc; injection hc with hc; injection hc with _ hc _
    subst hc
    rcases ht with h | ⟨h, _⟩ <;> exact absurd h (by decide)
  have hgr : some g ≠ r.ownBlock := by
    rcases ht with rfl | ⟨_, rfl | h⟩
    · exact Kd.R_ne hr hc (by decide)
    · exact fun e => hr.1 g e.symm rfl
    · exact fun e => h g e.symm rfl
  exact ((Below.heap_setCell w9 ⟨z, j, none⟩ v9 g hgz).trans (hg.block g (blk_lt hc) hgr)).trans hc
theorem RD.next {D : DataW Unit} {zs : List Int} {j : Nat} {r : Int} (h : RD D (zs.take j)) (hj : j < zs.length) (hr : zs.getD j 0 = r) : RD (D.put (.int .i64 (j : Int)) (.lit (.int .i64 r))) (zs.take (j + 1)) := by
  have h1 := h.snoc r
  have hl : (zs.take j).length = j := by rw [List.length_take]; omega
  rw [hl] at h1
  rw [take_next hj, hr]
  exact h1
end Go.Proofs.YtphaaagcdjpceaaDoor
