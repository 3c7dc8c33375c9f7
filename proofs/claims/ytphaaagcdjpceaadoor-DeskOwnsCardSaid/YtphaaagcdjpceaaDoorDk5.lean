/- desk: Send, where the session is there and nothing waits. -/
import Derived.Test.YtphaaagcdjpceaaDoorDk3
import Derived.Test.YtphaaagcdjpceaaDoorDk4
namespace Go.Proofs.YtphaaagcdjpceaaDoor
open Go.RowKit Go.Extern.Stop Go.Stop Go.Extern Go.Proofs.YtphaaagcdjpceaaDoorW.PrintWords Go.Proofs.YtphaaagcdjpceaaDoorW.PrintLast Go.Proofs.YtphaaagcdjpceaaDoorW.PrintMore
set_option linter.unusedVariables false
/-- All blocks that were there but one stand as they did. -/
structure SF (sb : Nat) (w w' : World) : Prop where
  size : w.heap.size ≤ w'.heap.size
  block : ∀ k, k < w.heap.size → k ≠ sb → w'.heap[k]? = w.heap[k]?
theorem SF.of_below {sb : Nat} {w w' : World} (h : Below w.heap.size w w') : SF sb w w' := ⟨h.size, fun k hk _ => h.block k hk⟩
theorem SF.trans {sb : Nat} {a b c : World} (h : SF sb a b) (k : SF sb b c) : SF sb a c := ⟨Nat.le_trans h.size k.size, fun j hj hn => (k.block j (Nat.lt_of_lt_of_le hj h.size) hn).trans (h.block j hj hn)⟩
theorem SF.set (sb j : Nat) (w : World) (v : Value) : SF sb w (w.setCell ⟨sb, j, none⟩ v) := ⟨by simp [World.setCell], fun k _ hn => Below.heap_setCell w ⟨sb, j, none⟩ v k hn⟩
/-- What the calls of Send find. -/
theorem SS.apart {W : World} {base sb : Nat} {most : Int} {s : Sn} (h : SS W base sb most s) : sb ≠ s.sg ∧ some sb ≠ abk W s.sg ∧ sb ≠ s.mb ∧ some sb ≠ s.bv.ownBlock := by
  obtain ⟨h1, ⟨g0, A, c, p1, p2⟩, ⟨es, clock, hm, r⟩, h4, h5⟩ := h
  refine ⟨?_, ?_, ?_, ?_⟩
  · intro e; rw [← e, h1] at p1; cases p1
  · intro he
    rw [abk_of ((blk_cell p1 1).trans (show _ = some (Value.slice A s.ps.length c) from rfl))] at he
    obtain ⟨cells, hc⟩ := Kd.R_typed p2 sb he.symm
    rw [hc] at h1; cases h1
  · intro e; rw [← e, h1] at hm; cases hm
  · intro he
    obtain ⟨cells, hc⟩ := Kd.R_typed h4 sb he.symm
    rw [hc] at h1; cases h1
/-- Bytes are copied. -/
theorem clone_C (A : Option Addr) (c : Nat) (bs : List Int) (W : World) (hc : Kd.C (Kd.int .u8) W A bs.length bs) (hl : bs.length ≤ 100000) : Calls Tryd.prog 63 #[.slice A bs.length c] W fun e w' => ∃ v', e = .returned v' ∧ Kd.R (Kd.int .u8) 5 w' W.heap.size (fun _ => True) v' bs ∧ Below W.heap.size W w' := by
  cases A with
  | none =>
    have h0 : bs = [] := by
      cases bs with
      | nil => rfl
      | cons b r => obtain ⟨ad, e, _⟩ := Kd.at_int hc 0 (by omega) (by simp); cases e
    subst h0
    exact (clone_nil c W).mono fun e w' h => ⟨_, h.1, Kd.R_nil _ _ _ _ _, h.2⟩
  | some ad => exact clone_some ad c bs W hc hl
/-- A session's bytes are told anew. -/
theorem SS.bytes {W : World} {base sb : Nat} {sm : Int} {s : Sn} (h : SS W base sb sm s) {b2 : Nat} {v' : Value} {bs : List Int} (hR : Kd.R (Kd.int .u8) 5 W b2 (fun _ => True) v' bs) (hsb : sb < b2) (hb2 : base ≤ b2) (b : Bool) :
    SS ((W.setCell ⟨sb, 0, none⟩ (.bool b)).setCell ⟨sb, 1, none⟩ v') base sb sm { s with wt := b, bv := v', bs := bs } := by
  obtain ⟨a1, a2, a3, a4⟩ := h.apart
  have ho : ∀ k, k ≠ sb → ((W.setCell ⟨sb, 0, none⟩ (.bool b)).setCell ⟨sb, 1, none⟩ v').heap[k]? = W.heap[k]? := fun k hk => (Below.heap_setCell _ ⟨sb, 1, none⟩ _ k hk).trans (Below.heap_setCell W ⟨sb, 0, none⟩ _ k hk)
  obtain ⟨h1, h2, ⟨es, clock, hm, r⟩, h4, h5⟩ := h
  refine ⟨blk_set (blk_set h1 0 _) 1 _, h2.same (ho _ a1.symm) (fun k hk => ho k (by rintro rfl; exact a2 hk)), ⟨es, clock, (ho s.mb a3.symm).trans hm, r⟩, ?_, h5⟩
  exact R_same (Kd.R_lower hR hb2) rfl (fun k hk => ho k (by have := (Kd.R_bound hR).1 k hk.symm; have := this.2.1; omega))
set_option maxHeartbeats 4000000 in
set_option maxRecDepth 100000 in
theorem send_ok (d base pg M sb : Nat) (most n : Int) (ps : List S108) (snaps : Int) (cap : Nat) (D : DataW Unit) (p t : Int) (sm : Int) (s : Sn) (w : World) (h : DK w base d pg M most n ps snaps cap D) (hp : (Lit.int .i64 p).wf = true) (hh : hasB ps p t = true) (hs : D.atKey (.int .i64 p) .nil = .lit (.int .i64 (sb : Int)))
    (hS : SS w base sb sm s) (hw : s.wt = false) (A : Option Addr) (c : Nat) (bs : List Int) (hb : Kd.C (Kd.int .u8) w A bs.length bs) (hl : bs.length ≤ 100000) :
    Calls Tryd.prog 41 #[.pointer (some ⟨d, 0, none⟩), .agg #[.int .i64 p, .int .i64 t], .slice A bs.length c] w fun e w' => ∃ v', e = .returned .nilIface ∧ SS w' base sb sm { s with wt := true, bv := v', bs := bs } ∧ Kd.R (Kd.int .u8) 5 w' w.heap.size (fun _ => True) v' bs ∧ SF sb w w' ∧ Below base w w' := by
  have B1 := below_alloc (Below.refl w.heap.size w) (.cells #[.int .i64 p, .int .i64 t] 40)
  have HN := Lib.hid (show Hn (w.alloc (.cells #[.int .i64 p, .int .i64 t] 40)) w.heap.size p t from heap_alloc_new w _)
  have HD := Lib.hid (h.below B1)
  have HS := Lib.hid (hS.below B1)
  have HC := Lib.hid (Kd.C_below hb B1)
  have HB := Lib.hid B1
  have HA := Lib.hid (And.intro hp (And.intro hh (And.intro hs (And.intro hw hl))))
  have HLT := Lib.hid (And.intro (show sb < w.heap.size from blk_lt hS.hd) hS.lo.1)
  clear B1 h hp hh hs hS hw hb hl
  go_enter Tryd.func41, Tryd.ntmps41
  go_upto_region 1 with (fail)
  generalize w.alloc (.cells #[.int .i64 p, .int .i64 t] 40) = w1 at *
  have q0 := (blk_cell HN.out 0).trans (show _ = some (Value.int .i64 p) from rfl)
  have q1 := (blk_cell HN.out 1).trans (show _ = some (Value.int .i64 t) from rfl)
  have b1 : decide (100000 < (bs.length : Int)) = false := decide_eq_false (by have := HA.out.2.2.2.2; omega)
  have b1' : decide (100000 < bs.length) = false := decide_eq_false (by have := HA.out.2.2.2.2; omega)
  go_upto_region 6 with (go_at_call 61; (with_reducible refine (find_yes d base pg M sb most n ps snaps cap D p t _ HD.out HA.out.1 HA.out.2.1 HA.out.2.2.1).mono ?_); rintro e w2 ⟨rfl, hb⟩; have HB2 := Lib.hid (below_step HB.out hb); have HS2 := Lib.hid (HS.out.below hb); have HC2 := Lib.hid (Kd.C_below HC.out hb); clear hb)
  have HD2 := Lib.hid HS2.out.hd
  have s0 := (blk_cell HD2.out 0).trans (show _ = some (Value.bool s.wt) from rfl)
  rw [HA.out.2.2.2.1] at s0
  have s1 := (blk_cell HD2.out 1).trans (show _ = some s.bv from rfl)
  go_upto_region 8 with (fail)
  clear s0 s1 q0 q1 b1 b1'
  go_wp2_with (go_at_call 63; (with_reducible refine (clone_C A c bs _ HC2.out HA.out.2.2.2.2).mono ?_); rintro e w3 ⟨v', rfl, hr, hb⟩; obtain ⟨A', c', rfl⟩ := Kd.R_slice hr; have HB3 := Lib.hid (below_step HB2.out hb); have HS3 := Lib.hid (HS2.out.below hb); have HR3 := Lib.hid hr; have s0 := (blk_cell HS3.out.hd 0).trans (show _ = some (Value.bool s.wt) from rfl); have s1 := (blk_cell HS3.out.hd 1).trans (show _ = some s.bv from rfl); have z0 := blk_frozen HS3.out.hd 0; have z1 := blk_frozen HS3.out.hd 1; clear hr hb)
  have hs2 := HB2.out.size
  have hlt := HLT.out
  have hfin := HS3.out.bytes HR3.out (by omega) (by omega) true
  have hne : ∀ k, k ≠ sb → ((w3.setCell ⟨sb, 0, none⟩ (.bool true)).setCell ⟨sb, 1, none⟩ (.slice A' bs.length c')).heap[k]? = w3.heap[k]? := fun k hk => (Below.heap_setCell _ ⟨sb, 1, none⟩ _ k hk).trans (Below.heap_setCell w3 ⟨sb, 0, none⟩ _ k hk)
  have hr := R_same (W1 := (w3.setCell ⟨sb, 0, none⟩ (.bool true)).setCell ⟨sb, 1, none⟩ (.slice A' bs.length c')) (Kd.R_lower HR3.out hs2) rfl (fun k hk => hne k (by have := ((Kd.R_bound HR3.out).1 k hk.symm).2.1; omega))
  have hbl := ((HB3.out.mono (show base ≤ w.heap.size by omega)).setCell (p := ⟨sb, 0, none⟩) hlt.2 (.bool true)).setCell (p := ⟨sb, 1, none⟩) hlt.2 (.slice A' bs.length c')
  have hsf := ((SF.of_below (sb := sb) HB3.out).trans (SF.set sb 0 w3 (.bool true))).trans (SF.set sb 1 _ (.slice A' bs.length c'))
  go_ret
  exact ⟨_, rfl, hfin, hr, hsf, hbl⟩
end Go.Proofs.YtphaaagcdjpceaaDoor
