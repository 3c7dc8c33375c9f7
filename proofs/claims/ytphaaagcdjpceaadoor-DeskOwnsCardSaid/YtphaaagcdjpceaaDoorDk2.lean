/- desk: sessions in memory; New. -/
import Derived.Test.YtphaaagcdjpceaaDoorDk1
namespace Go.Proofs.YtphaaagcdjpceaaDoor
open Go.RowKit Go.Extern.Stop Go.Stop Go.Extern Go.Proofs.YtphaaagcdjpceaaDoorW.PrintWords Go.Proofs.YtphaaagcdjpceaaDoorW.PrintLast Go.Proofs.YtphaaagcdjpceaaDoorW.PrintMore
open Go.Maps (Keyed)
set_option linter.unusedVariables false
/-- A row whose own block stands as it did. -/
theorem R_same {α : Type} {d : Kd α} {e base : Nat} {ok : Nat → Prop} {W W1 : World} {v : Value} {xs : List α} (h : d.R e W base ok v xs) (hE : d.E = []) (hs : ∀ k, some k = v.ownBlock → W1.heap[k]? = W.heap[k]?) : d.R e W1 base ok v xs :=
  Kd.R_mono (Kd.R_move (Kd.R_tight hE h) (fun k hk => hs k hk)) (fun k hk => h.1 k hk.symm)
theorem abk_same {W W1 : World} {g : Nat} (h : W1.heap[g]? = W.heap[g]?) : abk W1 g = abk W g := by
  unfold abk
  rw [World.cell?_of_block (a := ⟨g, 1, none⟩) h]
theorem PL.same {W W1 : World} {base g : Nat} {most n : Int} {ps : List S108} (h : PL W base g most ps n) (hg : W1.heap[g]? = W.heap[g]?) (ha : ∀ k, some k = abk W g → W1.heap[k]? = W.heap[k]?) : PL W1 base g most ps n := by
  obtain ⟨h0, A, c, h1, h2⟩ := h
  refine ⟨h0, A, c, hg.trans h1, R_same h2 rfl (fun k hk => ha k ?_)⟩
  rw [hk]
  exact (abk_of ((blk_cell h1 1).trans rfl)).symm
/-- A session. -/
structure Sn where
  wt : Bool
  bv : Value
  bs : List Int
  sg : Nat
  ps : List S108
  n : Int
  mb : Nat
  cap : Nat
  D : DataW Unit
/-- A session at block sb. -/
structure SS (W : World) (base sb : Nat) (most : Int) (s : Sn) : Prop where
  hd : W.heap[sb]? = some (.cells #[.bool s.wt, s.bv, .pointer (some ⟨s.sg, 0, none⟩), .map (some s.mb)] 136 (0, 0))
  pl : PL W base s.sg most s.ps s.n
  mp : W.ownsMap Tryd.prog 3 (plainElem Tryd.prog 3) s.mb s.cap s.D
  by_ : Kd.R (Kd.int .u8) 5 W base (fun _ => True) s.bv s.bs
  lo : base ≤ sb ∧ base ≤ s.mb
/-- The blocks that a session stands on. -/
def foot (W : World) (sb : Nat) (s : Sn) (k : Nat) : Prop := k = sb ∨ k = s.sg ∨ some k = abk W s.sg ∨ k = s.mb ∨ some k = s.bv.ownBlock
theorem SS.same {W W1 : World} {base sb : Nat} {most : Int} {s : Sn} (h : SS W base sb most s) (hs : ∀ k, foot W sb s k → W1.heap[k]? = W.heap[k]?) : SS W1 base sb most s := by
  obtain ⟨h1, h2, ⟨es, clock, hm, r⟩, h4, h5⟩ := h
  exact ⟨(hs sb (.inl rfl)).trans h1, h2.same (hs _ (.inr (.inl rfl))) (fun k hk => hs k (.inr (.inr (.inl hk)))), ⟨es, clock, (hs s.mb (.inr (.inr (.inr (.inl rfl))))).trans hm, r⟩, R_same h4 rfl (fun k hk => hs k (.inr (.inr (.inr (.inr hk))))), h5⟩
theorem SS.lt {W : World} {base sb : Nat} {most : Int} {s : Sn} (h : SS W base sb most s) (k : Nat) (hk : foot W sb s k) : base ≤ k ∧ k < W.heap.size := by
  obtain ⟨h1, ⟨g0, A, c, p1, p2⟩, ⟨es, clock, hm, r⟩, h4, h5⟩ := h
  rcases hk with rfl | rfl | hk | rfl | hk
  · exact ⟨h5.1, blk_lt h1⟩
  · exact ⟨g0, blk_lt p1⟩
  · rw [abk_of ((blk_cell p1 1).trans (show _ = some (Value.slice A s.ps.length c) from rfl))] at hk
    have hb := Kd.R_bound p2
    have := hb.1 k hk.symm
    exact ⟨this.2.1, this.2.2.1⟩
  · exact ⟨h5.2, blk_lt hm⟩
  · have hb := Kd.R_bound h4
    have := hb.1 k hk.symm
    exact ⟨this.2.1, this.2.2.1⟩
theorem SS.below {W W1 : World} {base sb : Nat} {most : Int} {s : Sn} (h : SS W base sb most s) (hb : Below W.heap.size W W1) : SS W1 base sb most s := h.same (fun k hk => hb.block k (h.lt k hk).2)
theorem foot_same {W W1 : World} {sb : Nat} {s : Sn} (h : W1.heap[s.sg]? = W.heap[s.sg]?) (k : Nat) : foot W1 sb s k ↔ foot W sb s k := by unfold foot; rw [abk_same h]
theorem mk131 (w : World) : (Instr.makeMap 131 none).run Tryd.prog w = .ok (.map (some w.heap.size)) (w.alloc (.map #[] 0)) := by kernel_rfl
theorem mk123 (w : World) : (Instr.makeMap 123 none).run Tryd.prog w = .ok (.map (some w.heap.size)) (w.alloc (.map #[] 0)) := by kernel_rfl
set_option maxHeartbeats 4000000 in
set_option maxRecDepth 100000 in
theorem newdesk_calls (a b : Int) (w : World) : Calls Tryd.prog 39 #[.int .i64 a, .int .i64 b] w fun e w' => ∃ d M, e = .returned (.pointer (some ⟨d, 0, none⟩)) ∧ DK w' w.heap.size d w.heap.size M (min (max a 0) 10000) 0 [] b 0 (.map []) ∧ Below w.heap.size w w' := by
  go_enter Tryd.func39, Tryd.ntmps39
  go_wp2_with (fail)
  go_at_call 15
  (with_reducible refine (newpool_calls a _).mono ?_)
  rintro e w1 ⟨rfl, h1, hb⟩
  have H1 := Lib.hid h1; have HB := Lib.hid hb
  clear h1 hb
  have hmk := mk131
  have B2 := below_alloc (Below.refl w1.heap.size w1) (.map #[] 0)
  have B3 := below_alloc B2 (.cells #[.pointer (some ⟨w.heap.size, 0, none⟩), .int .i64 b, .map (some w1.heap.size)] 133)
  have hm := World.ownsMap_made w1 Tryd.prog 3 ptrEl
  have hn := heap_alloc_new (w1.alloc (.map #[] 0)) (.cells #[.pointer (some ⟨w.heap.size, 0, none⟩), .int .i64 b, .map (some w1.heap.size)] 133)
  rw [World.size_alloc] at hn
  have HD : Hid (DK ((w1.alloc (.map #[] 0)).alloc (.cells #[.pointer (some ⟨w.heap.size, 0, none⟩), .int .i64 b, .map (some w1.heap.size)] 133)) w.heap.size (w1.heap.size + 1) w.heap.size w1.heap.size (min (max a 0) 10000) 0 [] b 0 (.map [])) := Lib.hid ⟨hn, H1.out.below B3, World.ownsMap.alloc hm _⟩
  have HB3 := Lib.hid (below_step HB.out B3)
  clear B2 B3 hm hn
  go_wp2
  go_ret
  exact ⟨_, _, rfl, HD.out, HB3.out⟩
end Go.Proofs.YtphaaagcdjpceaaDoor
