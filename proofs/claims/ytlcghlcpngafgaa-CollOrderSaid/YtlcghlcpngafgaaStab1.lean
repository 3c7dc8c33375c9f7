/- slices.swapRangeCmpFunc and rotateCmpFunc at places: what they make of the row. -/
import Derived.Test.YtlcghlcpngafgaaOrd1
import Derived.Test.YtlcghlcpngafgaaMrgI
import Derived.BigRegion
import Derived.Deep.LoopGhost
namespace Go.Proofs.Ytlcghlcpngafgaa
open Go.Shelf Go.RowKit Go.Lib Go.Sort Mrg Go.Proofs.YtlcghlcpngafgaaW.PrintWords Go.Proofs.YtlcghlcpngafgaaW.PrintMore
set_option linter.unusedVariables false

/-- W is w with the row holding d, some draws on. -/
def At {m : Nat} (w : World) (blk : Nat) (d : Array (Fin (m + 1))) (W : World) : Prop := ∃ q, W = (putRow encF w blk 0 d).drewN q
/-- The row can be read and written in w. -/
def Base (m : Nat) (w : World) (blk sz : Nat) : Prop := sz < 1000 ∧ ∃ d0 : Array (Fin (m + 1)), d0.size = sz ∧ Holds encF w blk 0 d0
section
variable {m : Nat} {w W : World} {blk sz : Nat} {d : Array (Fin (m + 1))}
theorem At.drewN (h : At w blk d W) (n : Nat) : At w blk d (W.drewN n) := by
  obtain ⟨q, rfl⟩ := h
  exact ⟨q + n, by rw [World.drewN_drewN]⟩
theorem At.drew (h : At w blk d W) : At w blk d W.drew := by
  obtain ⟨q, rfl⟩ := h
  exact ⟨q + 1, rfl⟩
theorem At.holds (h : At w blk d W) (hb : Base m w blk sz) (hd : d.size = sz) : Holds encF W blk 0 d := by
  obtain ⟨q, rfl⟩ := h
  obtain ⟨_, d0, h0, hH⟩ := hb
  exact holds_putRow encF w blk 0 d0 d hH (by omega)
theorem At.cell (h : At w blk d W) (hb : Base m w blk sz) (hd : d.size = sz) {i : Nat} (hi : i < sz) : W.cell? ⟨blk, i, none⟩ = some (.int .i64 ((atA d i).val : Int)) ∧ W.frozen? ⟨blk, i, none⟩ = false := by
  have := h.holds hb hd i (by omega)
  rw [Nat.zero_add] at this
  exact this
theorem At.self (hH : Holds encF w blk 0 d) : At w blk d w := ⟨0, (putRow_self encF w blk 0 d hH).symm⟩
theorem At.swap (h : At w blk d W) {i j : Nat} (hi : i < d.size) (hj : j < d.size) : At w blk (swp d i j) (((W.setCell ⟨blk, i, none⟩ (.int .i64 ((atA d j).val : Int))).setCell ⟨blk, j, none⟩ (.int .i64 ((atA d i).val : Int))).drew) := by
  obtain ⟨q, rfl⟩ := h
  have := swap_worldC encF w blk 0 d q i j hi hj
  rw [Nat.zero_add, Nat.zero_add] at this
  exact ⟨q + 1, this⟩
end
/-- The row was turned: R tells how. -/
def Turned {m : Nat} (w : World) (blk sz : Nat) (R : (Nat → Fin (m + 1)) → Prop) (e : Ending) (w' : World) : Prop := e = .returned (.tuple #[]) ∧ ∃ d' : Array (Fin (m + 1)), d'.size = sz ∧ At w blk d' w' ∧ R (atA d')

theorem swp_step {α : Type} [Inhabited α] {d dk : Array α} {a b n i : Nat} (hab : a + n ≤ b) (hi : i < n) (hb : b + n ≤ dk.size) (h : Swp (atA d) (atA dk) a b i) : Swp (atA d) (atA (swp dk (a + i) (b + i))) a b (i + 1) := by
  obtain ⟨h1, h2, h3⟩ := h
  have g := atA_swp dk (i := a + i) (j := b + i) (by omega) (by omega)
  refine ⟨fun k q1 q2 => ?_, fun k q1 q2 => ?_, fun k q1 q2 => ?_⟩
  · rw [g, if_neg (by omega)]
    by_cases c : k = a + i
    · rw [if_pos c, h3 _ (by omega) (by omega)]; congr 1; omega
    · rw [if_neg c]; exact h1 k q1 (by omega)
  · rw [g]
    by_cases c : k = b + i
    · rw [if_pos c, h3 _ (by omega) (by omega)]; congr 1; omega
    · rw [if_neg c, if_neg (by omega)]; exact h2 k q1 (by omega)
  · rw [g, if_neg (by omega), if_neg (by omega)]; exact h3 k (by omega) (by omega)

set_option maxHeartbeats 4000000 in
set_option maxRecDepth 1000000 in
theorem swapRange_calls {m : Nat} (blk cap sz a b n : Nat) (d : Array (Fin (m + 1))) (w W : World) (c : Value) (hB : Base m w blk sz) (hd : d.size = sz) (hW : At w blk d W) (hab : a + n ≤ b) (hb : b + n ≤ sz) :
    Calls Try.prog 49 #[.slice (some ⟨blk, 0, none⟩) sz cap, .int .i64 a, .int .i64 b, .int .i64 n, c] W (Turned w blk sz fun f => Swp (atA d) f a b n) := by
  have HB := Lib.hid hB; have HW := Lib.hid hW; have HD := Lib.hid hd
  have hs := hB.1
  clear hB hW hd
  go_enter Try.func49, Try.ntmps49
  go_wp2
  go_loopg [10] n (fun g1 vi wr => ∃ (i : Nat) (dk : Array (Fin (m + 1))), vi = .int .i64 (i : Int) ∧ i ≤ n ∧ n - i ≤ g1 ∧ Hid (dk.size = sz) ∧ Hid (At w blk dk wr) ∧ Hid (Swp (atA d) (atA dk) a b i))
  case atStart => exact ⟨0, d, rfl, by omega, by omega, HD.out, HW.out, ⟨fun _ _ _ => by omega, fun _ _ _ => by omega, fun _ _ _ => rfl⟩⟩
  case round =>
    obtain ⟨i, dk, rfl, hi, hg, HK, HA, HS⟩ := hrel
    by_cases hlt : i < n
    · have hlz : decide ((i : Int) < (n : Int)) = true := decide_eq_true (by omega)
      obtain ⟨ca, fa⟩ := HA.out.cell HB.out HK.out (i := a + i) (by omega)
      obtain ⟨cb, fb⟩ := HA.out.cell HB.out HK.out (i := b + i) (by omega)
      have HN := Lib.hid (HA.out.swap (i := a + i) (j := b + i) (by rw [HK.out]; omega) (by rw [HK.out]; omega))
      have HN2 := Lib.hid (swp_step hab hlt (by rw [HK.out]; exact hb) HS.out)
      generalize ((atA dk (a + i)).val : Int) = x at *
      generalize ((atA dk (b + i)).val : Int) = y at *
      have p1 : (0 : Int) ≤ ((a + i : Nat) : Int) := by omega
      have p2 : ((a + i : Nat) : Int) < (sz : Int) := by omega
      have p3 : (0 : Int) ≤ ((b + i : Nat) : Int) := by omega
      have p4 : ((b + i : Nat) : Int) < (sz : Int) := by omega
      have t1 : IntKind.i64.wrap ((a : Int) + (i : Int)) = ((a + i : Nat) : Int) := by rw [IntKind.wrap_i64]; omega
      have t2 : IntKind.i64.wrap ((b : Int) + (i : Int)) = ((b + i : Nat) : Int) := by rw [IntKind.wrap_i64]; omega
      have cb2 : (wr.setCell ⟨blk, a + i, none⟩ (.int .i64 y)).cell? ⟨blk, b + i, none⟩ = some (.int .i64 y) := (World.cell?_setCell_other _ _ _ _ (fun e => by injection e with _ e2; omega)).trans cb
      clear HA HS hab
      generalize hai : a + i = ai at *
      generalize hbi : b + i = bi at *
      have HAI := Lib.hid hai; have HBI := Lib.hid hbi
      clear hai hbi
      go_upto_region 3 with (fail)
      go_region
      all_goals go_wp2
      go_roundg (n - (i + 1))
      case measure => omega
      case rel => exact ⟨i + 1, swp dk ai bi, by go_num, by omega, by omega, (swp_size dk ai bi).trans HK.out, HN.out, HN2.out⟩
    · have hlz : decide ((i : Int) < (n : Int)) = false := decide_eq_false (by omega)
      obtain rfl : i = n := by omega
      go_wp2
      go_end0
      exact ⟨rfl, dk, HK.out, HA.out, HS.out⟩
end Go.Proofs.Ytlcghlcpngafgaa
