/- The stable sort of fewer than twenty places by their orders. -/
import Derived.Test.YtlcghlcpngafgaaOrd0
import Derived.Sort.OwnSortedInts
namespace Go.Proofs.Ytlcghlcpngafgaa
open Go.Shelf Go.RowKit Go.Lib Go.Sort Go.Proofs.YtlcghlcpngafgaaW.PrintWords Go.Proofs.YtlcghlcpngafgaaW.PrintMore
set_option linter.unusedVariables false

/-- A place of a row of m + 1. -/
def encF {m : Nat} (x : Fin (m + 1)) : Value := .int .i64 (x.val : Int)
theorem encF_one {m : Nat} : OneCell (encF (m := m)) := fun _ => rfl
/-- What the closure tells of two places. -/
def cfO (l : List Int) {m : Nat} (x y : Fin (m + 1)) : Int := compareInt (rd l x.val) (rd l y.val)

theorem grownBy_sortedF {α : Type} [Inhabited α] (enc : α → Value) {w : World} {g off n : Nat} {os : Array Obj} (d : Array α) : w.grownBy (sortWorld enc w g off n d os) (some g) := by
  unfold sortWorld
  refine ⟨rfl, rfl, rfl, by simp [putRow, mapBlock, Sort.ahead], fun k hk hne => ?_⟩
  rw [heap_grow_old _ _ (by simpa [putRow, mapBlock, Sort.ahead] using hk)]
  have : g ≠ k := fun e => hne (by rw [e])
  simp [putRow, mapBlock, Sort.ahead, Array.getElem?_modify, this]

/-- What the closure asks of the world: its captured row. -/
structure Held (l : List Int) (A : Option Addr) (c B blk : Nat) (w0 w : World) : Prop where
  row : Kd.C (Kd.int .i64) w0 A l.length l
  below : Below w0.heap.size w0 w
  box : w.heap[B]? = some (.cells #[.slice A l.length c] 30 (0, 0))
  ne : B ≠ blk
  lo : w0.heap.size ≤ blk
  hi : blk < w.heap.size
  size : w0.heap.size ≤ w.heap.size

theorem cmpReads {m : Nat} (l : List Int) (hl : l.length = m + 1) (A : Option Addr) (c B blk : Nat) (w0 w : World) (H : Held l A c B blk w0 w) (size : Nat) :
    CmpReads Try.prog 30 #[.pointer (some ⟨B, 0, none⟩)] (encF (m := m)) (cfO l) blk 0 size w := by
  intro n os dk hdk x y
  have hg := grownBy_sortedF encF (w := w) (g := blk) (off := 0) (n := n) (os := os) dk
  generalize sortWorld encF w blk 0 n dk os = W at *
  have hb2 : Below w0.heap.size w0 W := pw_below_grown H.below (some blk) H.size hg (fun k e => by cases e; exact H.lo)
  have hlt : B < w.heap.size := (Array.getElem?_eq_some_iff.1 H.box).1
  have hbox : W.heap[B]? = some (.cells #[.slice A l.length c] 30 (0, 0)) := (hg.block B hlt (fun e => H.ne (Option.some.inj e))).trans H.box
  have hcell : W.cell? ⟨B, 0, none⟩ = some (.slice A l.length c) := by simp [World.cell?, hbox]
  exact ord1 l A c B x.val y.val (by omega) (by omega) W hcell (Kd.C_below H.row hb2)

theorem ins_calls {m : Nat} (l : List Int) (hl : l.length = m + 1) (A : Option Addr) (c B blk cap : Nat) (w0 w : World) (H : Held l A c B blk w0 w) (d : Array (Fin (m + 1))) (hd : d.size = m + 1) (hs : m < 1000) (hH : Holds encF w blk 0 d) (a b : Nat) (hab : a ≤ b) (hb : b ≤ d.size) :
    Calls Try.prog 43 #[.slice (some ⟨blk, 0, none⟩) d.size cap, .int .i64 a, .int .i64 b, .func (.func 30) #[] #[.pointer (some ⟨B, 0, none⟩)]] w fun e w' => e = .returned (.tuple #[]) ∧ ∃ n, w' = (putRow encF w blk 0 (Sort.insertionSort (ltOf (cfO l)) d a b)).drewN n :=
  Any.insertionSortCmpFunc_one Try.insLay encF encF_one (cfO l) 30 #[.pointer (some ⟨B, 0, none⟩)] blk 0 cap a b d w (enters_of Try.func30 (by kernel_rfl) rfl) (cmpReads l hl A c B blk w0 w H d.size) hH hab hb (by omega)

set_option maxHeartbeats 2000000 in
set_option maxRecDepth 100000 in
theorem stable_calls {m : Nat} (l : List Int) (hl : l.length = m + 1) (A : Option Addr) (c B blk cap : Nat) (w0 w : World) (H : Held l A c B blk w0 w) (d : Array (Fin (m + 1))) (hd : d.size = m + 1) (hs : m < 19) (hH : Holds encF w blk 0 d) :
    Calls Try.prog 38 #[.slice (some ⟨blk, 0, none⟩) d.size cap, .int .i64 d.size, .func (.func 30) #[] #[.pointer (some ⟨B, 0, none⟩)]] w fun e w' => e = .returned (.tuple #[]) ∧ ∃ n, w' = (putRow encF w blk 0 (Sort.insertionSort (ltOf (cfO l)) d 0 d.size)).drewN n := by
  have hi : Calls Try.prog 43 #[.slice (some ⟨blk, 0, none⟩) d.size cap, .int .i64 0, .int .i64 d.size, .func (.func 30) #[] #[.pointer (some ⟨B, 0, none⟩)]] w fun e w' => e = .returned (.tuple #[]) ∧ ∃ n, w' = (putRow encF w blk 0 (Sort.insertionSort (ltOf (cfO l)) d 0 d.size)).drewN n := ins_calls l hl A c B blk cap w0 w H d hd (by omega) hH 0 d.size (Nat.zero_le _) (Nat.le_refl _)
  generalize Sort.insertionSort (ltOf (cfO l)) d 0 d.size = X at *
  have t1 : decide ((20 : Int) ≤ (d.size : Int)) = false := decide_eq_false (by omega)
  have t2 : decide ((20 : Int) < (d.size : Int)) = false := decide_eq_false (by omega)
  generalize d.size = z at *
  clear hH hs hd H hl
  have HI := Lib.hid hi
  clear hi
  go_enter Try.func38, Try.ntmps38
  go_wp2
  refine wp_loop_rounds 1 ?_
  rw [rounds_succ]
  go_wp2_with (first | (go_at_call 43; (with_reducible refine HI.out.mono ?_); rintro e w' ⟨rfl, n, rfl⟩))
  refine wp_loop_rounds 1 ?_
  rw [rounds_succ]
  go_wp2
  go_end0
  exact ⟨rfl, n, rfl⟩

set_option maxHeartbeats 2000000 in
set_option maxRecDepth 100000 in
theorem sort_calls {m : Nat} (l : List Int) (hl : l.length = m + 1) (A : Option Addr) (c B blk cap : Nat) (w0 w : World) (H : Held l A c B blk w0 w) (d : Array (Fin (m + 1))) (hd : d.size = m + 1) (hs : m < 19) (hH : Holds encF w blk 0 d) :
    Calls Try.prog 29 #[.slice (some ⟨blk, 0, none⟩) d.size cap, .func (.func 30) #[] #[.pointer (some ⟨B, 0, none⟩)]] w fun e w' => e = .returned (.tuple #[]) ∧ ∃ n, w' = (putRow encF w blk 0 (Sort.insertionSort (ltOf (cfO l)) d 0 d.size)).drewN n := by
  have hi := stable_calls l hl A c B blk cap w0 w H d hd hs hH
  generalize Sort.insertionSort (ltOf (cfO l)) d 0 d.size = X at *
  generalize d.size = z at *
  clear hH hs hd H hl
  have HI := Lib.hid hi
  clear hi
  go_enter Try.func29, Try.ntmps29
  go_wp2_with (first | (go_at_call 38; (with_reducible refine HI.out.mono ?_); rintro e w' ⟨rfl, n, rfl⟩))
  go_end0
  exact ⟨rfl, n, rfl⟩
end Go.Proofs.Ytlcghlcpngafgaa
