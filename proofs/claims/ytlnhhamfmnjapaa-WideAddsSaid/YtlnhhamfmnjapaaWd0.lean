import Derived.Test.YtlnhhamfmnjapaaUUnitRounds
import Derived.WalkKit
import Derived.WalkSpells
import Derived.WalkLawsBesides
import Derived.Outline
import Derived.Test.YtlnhhamfmnjapaaWMore
import Derived.BigRegion
import Derived.Deep.RegionHeld3
import Derived.Lib.Hide
import Derived.Deep.QuietTactic
import Derived.BigQuiet
namespace Go.Proofs.Ytlnhhamfmnjapaa
open Go.RowKit Go.Proofs.YtlnhhamfmnjapaaW.PrintWords
open Go.Proofs.YtlnhhamfmnjapaaW.PrintLast Go.Proofs.YtlnhhamfmnjapaaW.PrintMore
open PUnitRounds PUnitRounds.U
set_option linter.unusedVariables false
theorem pct_calls (b h : Int) (w : World) : Calls Try.prog 32 #[.int .i64 b, .int .i64 h] w fun e w' => e = .returned (.int .i64 (pct b h)) ∧ Below w.heap.size w w' :=
  unit_Pct.calls b h (pct b h) w (Pct_eq b h)
def lenN (k n base : Int) : Int := if k = 1 then max n 0 else if k = 2 ∧ 0 ≤ base then max (pct base n) 0 else 0
def lenB (k base : Int) : Bool := if k = 1 then true else if k = 2 ∧ 0 ≤ base then true else false
set_option maxHeartbeats 1000000 in
set_option maxRecDepth 100000 in
theorem of_fix (n base : Int) (w : World) : Calls Try.prog 53 #[.agg #[.int .i64 1, .int .i64 n], .int .i64 base] w fun e w' => e = .returned (.tuple #[.int .i64 (max n 0), .bool true]) ∧ Below w.heap.size w w' := by
  go_enter Try.func53, Try.ntmps53
  go_wp2
  go_ret2
  exact ⟨rfl, below_alloc (Below.refl _ _) _⟩
set_option maxHeartbeats 1000000 in
set_option maxRecDepth 100000 in
theorem of_pct (n base : Int) (w : World) (hb : 0 ≤ base) : Calls Try.prog 53 #[.agg #[.int .i64 2, .int .i64 n], .int .i64 base] w fun e w' => e = .returned (.tuple #[.int .i64 (max (pct base n) 0), .bool true]) ∧ Below w.heap.size w w' := by
  have t1 : decide (0 ≤ base) = true := decide_eq_true hb
  go_enter Try.func53, Try.ntmps53
  go_wp2_with (go_at_call 32; refine (pct_calls base n _).mono ?_; rintro e w1 ⟨rfl, hb1⟩)
  go_ret2
  exact ⟨rfl, below_step (below_alloc (Below.refl _ _) _) hb1⟩
set_option maxHeartbeats 1000000 in
set_option maxRecDepth 100000 in
theorem of_none (k n base : Int) (w : World) (h1 : (k == 1) = false) (h2 : (k == 2) = false) : Calls Try.prog 53 #[.agg #[.int .i64 k, .int .i64 n], .int .i64 base] w fun e w' => e = .returned (.tuple #[.int .i64 0, .bool false]) ∧ Below w.heap.size w w' := by
  go_enter Try.func53, Try.ntmps53
  go_wp2
  go_ret2
  exact ⟨rfl, below_alloc (Below.refl _ _) _⟩
set_option maxHeartbeats 1000000 in
set_option maxRecDepth 100000 in
theorem of_neg (n base : Int) (w : World) (hb : base < 0) : Calls Try.prog 53 #[.agg #[.int .i64 2, .int .i64 n], .int .i64 base] w fun e w' => e = .returned (.tuple #[.int .i64 0, .bool false]) ∧ Below w.heap.size w w' := by
  have t1 : decide (0 ≤ base) = false := decide_eq_false (by omega)
  go_enter Try.func53, Try.ntmps53
  go_wp2
  go_ret2
  exact ⟨rfl, below_alloc (Below.refl _ _) _⟩
theorem len_fix (n base : Int) : lenN 1 n base = max n 0 ∧ lenB 1 base = true := ⟨if_pos rfl, if_pos rfl⟩
theorem len_pct (n base : Int) (hb : 0 ≤ base) : lenN 2 n base = max (pct base n) 0 ∧ lenB 2 base = true :=
  ⟨(if_neg (by decide)).trans (if_pos ⟨rfl, hb⟩), (if_neg (by decide)).trans (if_pos ⟨rfl, hb⟩)⟩
theorem len_none (k n base : Int) (h1 : k ≠ 1) (h2 : ¬ (k = 2 ∧ 0 ≤ base)) : lenN k n base = 0 ∧ lenB k base = false :=
  ⟨(if_neg h1).trans (if_neg h2), (if_neg h1).trans (if_neg h2)⟩
theorem of_calls (k n base : Int) (w : World) : Calls Try.prog 53 #[.agg #[.int .i64 k, .int .i64 n], .int .i64 base] w fun e w' => e = .returned (.tuple #[.int .i64 (lenN k n base), .bool (lenB k base)]) ∧ Below w.heap.size w w' := by
  by_cases h1 : k = 1
  · rw [h1, (len_fix n base).1, (len_fix n base).2]
    exact of_fix n base w
  by_cases h2 : k = 2 ∧ 0 ≤ base
  · rw [h2.1, (len_pct n base h2.2).1, (len_pct n base h2.2).2]
    exact of_pct n base w h2.2
  rw [(len_none k n base h1 h2).1, (len_none k n base h1 h2).2]
  by_cases h3 : k = 2
  · rw [h3]
    exact of_neg n base w (by omega)
  · exact of_none k n base w (beq_eq_false_iff_ne.2 h1) (beq_eq_false_iff_ne.2 h3)
def IsSty (CS : Array Value) (f : Nat → Int) : Prop := CS.size = 43 ∧ ∀ i, i < 43 → CS[i]? = some (.int .i64 (f i))
def StyIn (W : World) (g : Nat) (CS : Array Value) : Prop := W.heap[g]? = some (.cells CS 27 (0, 0))
theorem StyIn.cell {W : World} {g : Nat} {CS : Array Value} (h : StyIn W g CS) {f : Nat → Int} (hs : IsSty CS f) (i : Nat) (hi : i < 43) : W.cell? ⟨g, i, none⟩ = some (.int .i64 (f i)) := (blk_cell h i).trans (hs.2 i hi)
theorem StyIn.below {W W1 : World} {g : Nat} {CS : Array Value} (h : StyIn W g CS) (hb : Below W.heap.size W W1) : StyIn W1 g CS := blk_below h hb
theorem StyIn.drew {W : World} {g : Nat} {CS : Array Value} (h : StyIn W g CS) : StyIn W.drew g CS := h
theorem StyIn.alloc {W : World} {g : Nat} {CS : Array Value} (h : StyIn W g CS) (o : Obj) : StyIn (W.alloc o) g CS := (Below.heap_alloc W o g (blk_lt h)).trans h
theorem StyIn.far {W : World} {g : Nat} {CS : Array Value} (h : StyIn W g CS) {p : Addr} (hne : g ≠ p.block) (u : Value) : StyIn (W.setCell p u) g CS := (Below.heap_setCell W p u g hne).trans h
def rowV (W : World) (v : Value) : Array Value := match v with
  | .pointer (some a) => match W.heap[a.block]? with
    | some (.cells cs _ _) => cs
    | _ => #[]
  | _ => #[]
def StyAt (W : World) (v : Value) : Prop := ∃ g cs, v = .pointer (some ⟨g, 0, none⟩) ∧ W.heap[g]? = some (.cells cs 27 (0, 0)) ∧ cs.size = 43
theorem sty_mk {W : World} {g : Nat} {cs : Array Value} (h : W.heap[g]? = some (.cells cs 27 (0, 0))) (hs : cs.size = 43) : StyAt W (.pointer (some ⟨g, 0, none⟩)) ∧ rowV W (.pointer (some ⟨g, 0, none⟩)) = cs :=
  ⟨⟨g, cs, rfl, h, hs⟩, by simp [rowV, h]⟩
theorem sty_drew (W : World) (v : Value) : StyAt W.drew v = StyAt W v := rfl
theorem row_drew (W : World) (v : Value) : rowV W.drew v = rowV W v := rfl
theorem exec_load27 (ρ : Operand → Value) (dst : Option Tmp) (x : Operand) (ty : TypeId) (pos : String) (after : Array Edge) (guard : Option (Nat × Bool)) (W : World) (h : StyAt W (ρ x)) :
    (execOp ρ { dst := dst, op := .load 27 x, type := ty, pos := pos, after := after, guard := guard }).run Try.prog W = .ok (.value (.agg (rowV W (ρ x)))) W := by
  obtain ⟨g, cs, hx, hg, hs⟩ := h
  have hr : rowV W (ρ x) = cs := by rw [hx]; simp [rowV, hg]
  rw [hr]
  have hl := run_loadVar_row (P := Try.prog) W g 27 27 cs (0, 0) _ hg Try.underlying27 rfl (by rw [hs]; kernel_rfl)
  unfold execOp
  simp only [hx, Instr.loadAt, Instr.sureAddr, Sem.run_bind, Sem.run_pure, Result.andThen_ok, hl]
theorem sty_of {W : World} {g : Nat} {CS : Array Value} (h : StyIn W g CS) (hs : CS.size = 43) : StyAt W (.pointer (some ⟨g, 0, none⟩)) ∧ rowV W (.pointer (some ⟨g, 0, none⟩)) = CS := sty_mk h hs
attribute [local go_sem ↓] exec_load27
attribute [local go_sem] sty_drew row_drew
attribute [local go_sem] max2_int min2_int max_two min_two max_three min_three
set_option maxHeartbeats 2000000 in
set_option maxRecDepth 100000 in
theorem min_cs (CS : Array Value) (f : Nat → Int) (hs : IsSty CS f) (hi : Bool) (base : Int) (w : World) : Calls Try.prog 39 #[.agg CS, .bool hi, .int .i64 base] w fun e w' => e = .returned (.int .i64 (if hi = true then lenN (f 15) (f 16) base else lenN (f 13) (f 14) base)) ∧ Below w.heap.size w w' := by
  have c13 := hs.2 13 (by omega)
  have c14 := hs.2 14 (by omega)
  have c15 := hs.2 15 (by omega)
  have c16 := hs.2 16 (by omega)
  generalize f 13 = x13 at *
  generalize f 14 = x14 at *
  generalize f 15 = x15 at *
  generalize f 16 = x16 at *
  clear hs
  cases hi
  · simp only [Bool.false_eq_true, if_false]
    go_enter Try.func39, Try.ntmps39
    go_wp2_with (go_at_call 53; refine (of_calls x13 x14 base _).mono ?_; rintro e w1 ⟨rfl, hb1⟩)
    go_ret
    exact ⟨rfl, below_step (below_alloc (below_alloc (Below.refl _ _) _) _) hb1⟩
  · simp only [if_true]
    go_enter Try.func39, Try.ntmps39
    go_wp2_with (go_at_call 53; refine (of_calls x15 x16 base _).mono ?_; rintro e w1 ⟨rfl, hb1⟩)
    go_ret
    exact ⟨rfl, below_step (below_alloc (below_alloc (Below.refl _ _) _) _) hb1⟩
set_option maxHeartbeats 2000000 in
set_option maxRecDepth 100000 in
theorem max_cs (CS : Array Value) (f : Nat → Int) (hs : IsSty CS f) (hi : Bool) (base : Int) (w : World) : Calls Try.prog 40 #[.agg CS, .bool hi, .int .i64 base] w fun e w' => e = .returned (.int .i64 (if hi = true then (if lenB (f 19) base = true then lenN (f 19) (f 20) base else -1) else (if lenB (f 17) base = true then lenN (f 17) (f 18) base else -1))) ∧ Below w.heap.size w w' := by
  have c17 := hs.2 17 (by omega)
  have c18 := hs.2 18 (by omega)
  have c19 := hs.2 19 (by omega)
  have c20 := hs.2 20 (by omega)
  generalize f 17 = x17 at *
  generalize f 18 = x18 at *
  generalize f 19 = x19 at *
  generalize f 20 = x20 at *
  clear hs
  cases hi
  · simp only [Bool.false_eq_true, if_false]
    cases hB : lenB x17 base
    all_goals (
      first | rw [if_pos rfl] | rw [if_neg Bool.false_ne_true]
      go_enter Try.func40, Try.ntmps40
      go_wp2_with (go_at_call 53; refine (of_calls x17 x18 base _).mono ?_; rintro e w1 ⟨rfl, hb1⟩)
      go_ret
      exact ⟨rfl, below_step (below_alloc (below_alloc (Below.refl _ _) _) _) hb1⟩)
  · simp only [if_true]
    cases hB : lenB x19 base
    all_goals (
      first | rw [if_pos rfl] | rw [if_neg Bool.false_ne_true]
      go_enter Try.func40, Try.ntmps40
      go_wp2_with (go_at_call 53; refine (of_calls x19 x20 base _).mono ?_; rintro e w1 ⟨rfl, hb1⟩)
      go_ret
      exact ⟨rfl, below_step (below_alloc (below_alloc (Below.refl _ _) _) _) hb1⟩)
def clampN (n least most : Int) : Int := max (max (if 0 ≤ most then min n most else n) least) 0
set_option maxHeartbeats 1000000 in
set_option maxRecDepth 100000 in
theorem clamp_calls (a b c : Int) (w : World) : Calls Try.prog 41 #[.int .i64 a, .int .i64 b, .int .i64 c] w fun e w' => e = .returned (.int .i64 (clampN a b c)) ∧ w = w' := by
  by_cases hc : 0 ≤ c
  · have HC := Lib.hid hc
    have t1 : decide (0 ≤ c) = true := decide_eq_true hc
    go_enter Try.func41, Try.ntmps41
    go_wp2
    all_goals (
      go_ret
      refine ⟨congrArg (fun z => Ending.returned (.int .i64 z)) ?_, rfl⟩
      unfold clampN
      rw [if_pos HC.out]
      (repeat' split) <;> omega)
  · have HC := Lib.hid hc
    have t1 : decide (0 ≤ c) = false := decide_eq_false hc
    go_enter Try.func41, Try.ntmps41
    go_wp2
    all_goals (
      go_ret
      refine ⟨congrArg (fun z => Ending.returned (.int .i64 z)) ?_, rfl⟩
      unfold clampN
      rw [if_neg (show ¬ 0 ≤ c by have := HC.out; omega)]
      (repeat' split) <;> omega)
def sideN (k n base : Int) : Int := if k = 1 then n else if k = 2 then pct base n else 0
def sideB (k : Int) : Bool := decide (k = 1) || decide (k = 2)
set_option maxHeartbeats 1000000 in
set_option maxRecDepth 100000 in
theorem side_fix (n base : Int) (w : World) : Calls Try.prog 22 #[.agg #[.int .i64 1, .int .i64 n], .int .i64 base] w fun e w' => e = .returned (.tuple #[.int .i64 n, .bool true]) ∧ Below w.heap.size w w' := by
  go_enter Try.func22, Try.ntmps22
  go_wp2
  go_ret2
  exact ⟨rfl, below_alloc (Below.refl _ _) _⟩
set_option maxHeartbeats 1000000 in
set_option maxRecDepth 100000 in
theorem side_pct (n base : Int) (w : World) : Calls Try.prog 22 #[.agg #[.int .i64 2, .int .i64 n], .int .i64 base] w fun e w' => e = .returned (.tuple #[.int .i64 (pct base n), .bool true]) ∧ Below w.heap.size w w' := by
  go_enter Try.func22, Try.ntmps22
  go_wp2_with (go_at_call 32; refine (pct_calls base n _).mono ?_; rintro e w1 ⟨rfl, hb1⟩)
  go_ret2
  exact ⟨rfl, below_step (below_alloc (Below.refl _ _) _) hb1⟩
set_option maxHeartbeats 1000000 in
set_option maxRecDepth 100000 in
theorem side_none (k n base : Int) (w : World) (h1 : (k == 1) = false) (h2 : (k == 2) = false) : Calls Try.prog 22 #[.agg #[.int .i64 k, .int .i64 n], .int .i64 base] w fun e w' => e = .returned (.tuple #[.int .i64 0, .bool false]) ∧ Below w.heap.size w w' := by
  go_enter Try.func22, Try.ntmps22
  go_wp2
  go_ret2
  exact ⟨rfl, below_alloc (Below.refl _ _) _⟩
theorem side_calls (k n base : Int) (w : World) : Calls Try.prog 22 #[.agg #[.int .i64 k, .int .i64 n], .int .i64 base] w fun e w' => e = .returned (.tuple #[.int .i64 (sideN k n base), .bool (sideB k)]) ∧ Below w.heap.size w w' := by
  by_cases h1 : k = 1
  · have e1 : sideN k n base = n := by unfold sideN; exact if_pos h1
    have e2 : sideB k = true := by unfold sideB; rw [decide_eq_true h1]; rfl
    rw [e1, e2, h1]
    exact side_fix n base w
  by_cases h2 : k = 2
  · have e1 : sideN k n base = pct base n := by unfold sideN; rw [if_neg h1]; exact if_pos h2
    have e2 : sideB k = true := by unfold sideB; rw [decide_eq_true h2, Bool.or_true]
    rw [e1, e2, h2]
    exact side_pct n base w
  have e1 : sideN k n base = 0 := by unfold sideN; rw [if_neg h1, if_neg h2]
  have e2 : sideB k = false := by unfold sideB; rw [decide_eq_false h1, decide_eq_false h2]; rfl
  rw [e1, e2]
  exact side_none k n base w (beq_eq_false_iff_ne.2 h1) (beq_eq_false_iff_ne.2 h2)
theorem res4 {fn : Func} {t u v x : Tmp} (h : fn.results = #[.tmp t, .tmp u, .tmp v, .tmp x]) (tmps : Array Value) (P : Program) (w : World) :
    (results fn tmps).run P w = .ok (.tuple #[tmps.getD t undef, tmps.getD u undef, tmps.getD v undef, tmps.getD x undef]) w := by simp [results, h]
def Near (x : Int) : Prop := -68719476736 ≤ x ∧ x ≤ 68719476736
set_option maxHeartbeats 2000000 in
set_option maxRecDepth 100000 in
theorem edges_cs (CS : Array Value) (f : Nat → Int) (hs : IsSty CS f) (hn : ∀ i, 31 ≤ i → i < 39 → Near (f i)) (w : World) : Calls Try.prog 19 #[.agg CS] w fun e w' => e = .returned (.tuple #[.int .i64 (f 31 + f 35), .int .i64 (f 32 + f 36), .int .i64 (f 33 + f 37), .int .i64 (f 34 + f 38)]) ∧ Below w.heap.size w w' := by
  have c31 := hs.2 31 (by omega)
  have c32 := hs.2 32 (by omega)
  have c33 := hs.2 33 (by omega)
  have c34 := hs.2 34 (by omega)
  have c35 := hs.2 35 (by omega)
  have c36 := hs.2 36 (by omega)
  have c37 := hs.2 37 (by omega)
  have c38 := hs.2 38 (by omega)
  have t0 : ∃ e0, IntKind.i64.wrap (f 31 + f 35) = e0 ∧ f 31 + f 35 = e0 := ⟨_, by have := hn 31 (by omega) (by omega); have := hn 35 (by omega) (by omega); unfold Near at *; rw [IntKind.wrap_i64]; omega, rfl⟩
  have t1 : ∃ e0, IntKind.i64.wrap (f 32 + f 36) = e0 ∧ f 32 + f 36 = e0 := ⟨_, by have := hn 32 (by omega) (by omega); have := hn 36 (by omega) (by omega); unfold Near at *; rw [IntKind.wrap_i64]; omega, rfl⟩
  have t2 : ∃ e0, IntKind.i64.wrap (f 33 + f 37) = e0 ∧ f 33 + f 37 = e0 := ⟨_, by have := hn 33 (by omega) (by omega); have := hn 37 (by omega) (by omega); unfold Near at *; rw [IntKind.wrap_i64]; omega, rfl⟩
  have t3 : ∃ e0, IntKind.i64.wrap (f 34 + f 38) = e0 ∧ f 34 + f 38 = e0 := ⟨_, by have := hn 34 (by omega) (by omega); have := hn 38 (by omega) (by omega); unfold Near at *; rw [IntKind.wrap_i64]; omega, rfl⟩
  obtain ⟨e0, t0, g0⟩ := t0
  obtain ⟨e1, t1, g1⟩ := t1
  obtain ⟨e2, t2, g2⟩ := t2
  obtain ⟨e3, t3, g3⟩ := t3
  rw [g0, g1, g2, g3]
  clear g0 g1 g2 g3 hn hs
  generalize f 31 = x31 at *
  generalize f 32 = x32 at *
  generalize f 33 = x33 at *
  generalize f 34 = x34 at *
  generalize f 35 = x35 at *
  generalize f 36 = x36 at *
  generalize f 37 = x37 at *
  generalize f 38 = x38 at *
  go_enter Try.func19, Try.ntmps19
  go_wp2
  go_quiet (fail)
  go_wp2
  refine bodyPost_ret (res4 rfl _ _ _) rfl ?_
  exact ⟨rfl, pw_below_drewN (below_alloc (Below.refl _ _) _) _⟩
def sharedN (l w r over : Int) (aL aR : Bool) : Value := if over < 0 ∨ aL = false then .agg #[.int .i64 l, .int .i64 w, .int .i64 (r + over)] else if aR = true then .agg #[.int .i64 (over / 2), .int .i64 w, .int .i64 (over - over / 2)] else .agg #[.int .i64 (l + over), .int .i64 w, .int .i64 r]
set_option maxHeartbeats 2000000 in
set_option maxRecDepth 100000 in
theorem shared_calls (l w r over : Int) (aL aR : Bool) (hl : Near l) (hr : Near r) (ho0 : -8796093022208 ≤ over) (ho1 : over ≤ 8796093022208) (W : World) : Calls Try.prog 42 #[.agg #[.int .i64 l, .int .i64 w, .int .i64 r], .int .i64 over, .bool aL, .bool aR] W fun e w' => e = .returned (sharedN l w r over aL aR) ∧ Below W.heap.size W w' := by
  have hB : Below W.heap.size W ((W.alloc (.cells #[.int .i64 l, .int .i64 w, .int .i64 r] 29)).alloc (.cells #[.int .i64 0, .int .i64 0, .int .i64 0] 29)) := below_alloc (below_alloc (Below.refl _ _) _) _
  unfold Near at hl hr
  obtain ⟨hl0, hl1⟩ := hl
  obtain ⟨hr0, hr1⟩ := hr
  have HB := Lib.hid hB
  clear hB
  have bx : ∀ a b c d : Int, Below W.heap.size W ((W.alloc (.cells #[.int .i64 a, .int .i64 b, .int .i64 c] 29)).alloc (.cells #[.int .i64 a, .int .i64 b, .int .i64 c] 29)) := fun a b c d => below_alloc (below_alloc (Below.refl _ _) _) _
  have BX := Lib.hid bx
  clear bx
  by_cases h1 : over < 0
  · have e : sharedN l w r over aL aR = .agg #[.int .i64 l, .int .i64 w, .int .i64 (r + over)] := if_pos (.inl h1)
    rw [e]
    have t1 : decide (over < 0) = true := decide_eq_true h1
    clear e
    go_enter Try.func42, Try.ntmps42
    go_wp2
    exact bodyPost_ret (v := .agg #[.int .i64 l, .int .i64 w, .int .i64 (r + over)]) (by simp [results, Try.results42, go_sem]) rfl ⟨rfl, BX.out _ _ _ 0⟩
  · have t1 : decide (over < 0) = false := decide_eq_false h1
    cases aL
    · have e : sharedN l w r over false aR = .agg #[.int .i64 l, .int .i64 w, .int .i64 (r + over)] := if_pos (.inr rfl)
      rw [e]
      clear e h1
      go_enter Try.func42, Try.ntmps42
      go_wp2
      exact bodyPost_ret (v := .agg #[.int .i64 l, .int .i64 w, .int .i64 (r + over)]) (by simp [results, Try.results42, go_sem]) rfl ⟨rfl, BX.out _ _ _ 0⟩
    · have hn : ¬ (over < 0 ∨ true = false) := fun h => by rcases h with h | h; exact h1 h; cases h
      cases aR
      · have e : sharedN l w r over true false = .agg #[.int .i64 (l + over), .int .i64 w, .int .i64 r] := (if_neg hn).trans (if_neg Bool.false_ne_true)
        rw [e]
        clear e hn h1
        go_enter Try.func42, Try.ntmps42
        go_wp2
        exact bodyPost_ret (v := .agg #[.int .i64 (l + over), .int .i64 w, .int .i64 r]) (by simp [results, Try.results42, go_sem]) rfl ⟨rfl, BX.out _ _ _ 0⟩
      · have e : sharedN l w r over true true = .agg #[.int .i64 (over / 2), .int .i64 w, .int .i64 (over - over / 2)] := (if_neg hn).trans (if_pos rfl)
        rw [e]
        have o0 : 0 ≤ over := by omega
        clear e hn h1
        go_enter Try.func42, Try.ntmps42
        go_wp2
        exact bodyPost_ret (v := .agg #[.int .i64 (over / 2), .int .i64 w, .int .i64 (over - over / 2)]) (by simp [results, Try.results42, go_sem]) rfl ⟨rfl, BX.out _ _ _ 0⟩
end Go.Proofs.Ytlnhhamfmnjapaa
