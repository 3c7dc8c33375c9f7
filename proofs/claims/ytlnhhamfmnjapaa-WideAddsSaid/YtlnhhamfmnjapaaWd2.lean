import Derived.Test.YtlnhhamfmnjapaaWd1
namespace Go.Proofs.Ytlnhhamfmnjapaa
open Go.RowKit Go.Proofs.YtlnhhamfmnjapaaW.PrintWords Go.Proofs.YtlnhhamfmnjapaaW.PrintLast Go.Proofs.YtlnhhamfmnjapaaW.PrintMore
open PUnitRounds PUnitRounds.U
set_option linter.unusedVariables false
attribute [local go_sem ↓] exec_load27
attribute [local go_sem] sty_drew row_drew
def hMinN (f : Nat → Int) (base : Int) : Int := lenN (f 15) (f 16) base
def hMaxN (f : Nat → Int) (base : Int) : Int := if lenB (f 19) base = true then lenN (f 19) (f 20) base else -1
def heightN (f : Nat → Int) (base : Int) : Int := clampN (pct base (f 12)) (hMinN f base) (hMaxN f base)
set_option maxHeartbeats 4000000 in
set_option maxRecDepth 100000 in
theorem height_neg (CS : Array Value) (f : Nat → Int) (hs : IsSty CS f) (h2 : f 11 = 2) (base : Int) (hb : base < 0) (w : World) : Calls Try.prog 15 #[.agg CS, .int .i64 base] w fun e w' => e = .returned (.tuple #[.int .i64 0, .bool false]) ∧ Below w.heap.size w w' := by
  have c11 := hs.2 11 (by omega)
  rw [h2] at c11
  have t1 : decide (base < 0) = true := decide_eq_true hb
  clear hs h2 hb
  go_enter Try.func15, Try.ntmps15
  go_wp2
  go_ret2
  exact ⟨rfl, below_alloc (Below.refl _ _) _⟩
set_option maxHeartbeats 4000000 in
set_option maxRecDepth 100000 in
theorem height_pct (CS : Array Value) (f : Nat → Int) (hs : IsSty CS f) (h2 : f 11 = 2) (base : Int) (hb : 0 ≤ base) (w : World) : Calls Try.prog 15 #[.agg CS, .int .i64 base] w fun e w' => e = .returned (.tuple #[.int .i64 (heightN f base), .bool true]) ∧ Below w.heap.size w w' := by
  have HS := Lib.hid hs
  have c11 := hs.2 11 (by omega)
  have c12 := hs.2 12 (by omega)
  rw [h2] at c11
  have t1 : decide (base < 0) = false := decide_eq_false (by omega)
  have HSD : Hid (∀ W, Calls Try.prog 22 #[.agg #[.int .i64 2, .int .i64 (f 12)], .int .i64 base] W fun e w' => e = .returned (.tuple #[.int .i64 (pct base (f 12)), .bool true]) ∧ Below W.heap.size W w') := fun W => side_pct (f 12) base W
  obtain ⟨least, hleast⟩ : ∃ least, hMinN f base = least := ⟨_, rfl⟩
  obtain ⟨most, hmost⟩ : ∃ most, hMaxN f base = most := ⟨_, rfl⟩
  have HMN2 : Hid (∀ W, Calls Try.prog 39 #[.agg CS, .bool true, .int .i64 base] W fun e w' => e = .returned (.int .i64 least) ∧ Below W.heap.size W w') := fun W => by rw [← hleast]; exact min_cs CS f hs true base W
  have HMX2 : Hid (∀ W, Calls Try.prog 40 #[.agg CS, .bool true, .int .i64 base] W fun e w' => e = .returned (.int .i64 most) ∧ Below W.heap.size W w') := fun W => by rw [← hmost]; exact max_cs CS f hs true base W
  obtain ⟨z, hz⟩ : ∃ z, heightN f base = z := ⟨_, rfl⟩
  obtain ⟨p, hp⟩ : ∃ p, pct base (f 12) = p := ⟨_, rfl⟩
  have HCL : Hid (∀ W, Calls Try.prog 41 #[.int .i64 p, .int .i64 least, .int .i64 most] W fun e w' => e = .returned (.int .i64 z) ∧ W = w') := fun W => by
    have := clamp_calls p least most W
    have e : clampN p least most = z := by rw [← hz, ← hp, ← hleast, ← hmost]; rfl
    rw [e] at this
    exact this
  rw [hp] at HSD
  rw [hz]
  clear hleast hmost hz hp hs h2 hb
  generalize f 12 = x12 at *
  go_enter Try.func15, Try.ntmps15
  go_upto_region 1 with (fail)
  have HST := Lib.hid (show StyIn (w.alloc (.cells CS 27)) w.heap.size CS from heap_alloc_new w _)
  have HB := Lib.hid (below_alloc (Below.refl w.heap.size w) (.cells CS 27))
  go_upto_region 6 with (go_at_call 22; (with_reducible refine (HSD.out _).mono ?_); rintro e W2 ⟨rfl, hb⟩; have HST2 := Lib.hid (HST.out.below hb); have HB2 := Lib.hid (below_step HB.out hb); clear hb)
  clear HST HB c11 c12
  have HSTS := Lib.hid (sty_of HST2.out HS.out.1)
  have hss := HSTS.out
  have HK := Lib.hid (Below.refl W2.heap.size W2)
  go_region_held3 (fun w' => StyAt w' (.pointer (some ⟨w.heap.size, 0, none⟩)) ∧ rowV w' (.pointer (some ⟨w.heap.size, 0, none⟩)) = CS) (first | go_keep | exact HSTS.out | exact sty_of (HST2.out.below HK1.out) HS.out.1) (first | (go_at_call 39; (with_reducible refine (HMN2.out _).mono ?_); rintro e wx ⟨rfl, hb⟩; first | (have HK1 := Lib.hid (below_step HK1.out hb)) | (have HK1 := Lib.hid (show Below W2.heap.size W2 wx from below_step (below_drew1 (Below.refl _ _)) hb))) | (go_at_call 40; (with_reducible refine (HMX2.out _).mono ?_); rintro e wx ⟨rfl, hb⟩; first | (have HK1 := Lib.hid (below_step HK1.out hb)) | (have HK1 := Lib.hid (show Below W2.heap.size W2 wx from below_step (below_drew1 (Below.refl _ _)) hb))) | (go_at_call 41; (with_reducible refine (HCL.out _).mono ?_); rintro e wx ⟨rfl, rfl⟩))
  all_goals (
    go_wp2
    go_ret2
    exact ⟨rfl, below_step HB2.out HK1.out⟩)
set_option maxRecDepth 100000 in
theorem fix_awake (n : Int) (w : World) : Calls Try.prog 43 #[.int .i64 n] w fun e w' => e = .returned (.agg #[.int .i64 1, .int .i64 n]) ∧ w' = w.alloc (.cells #[.int .i64 1, .int .i64 n] 23) := by
  go_enter Try.func43, Try.ntmps43
  go_wp2
  exact bodyPost_ret (v := .agg #[.int .i64 1, .int .i64 n]) (by simp [results, Try.results43, go_sem]) rfl ⟨rfl, rfl⟩
def nearB (n b h : Int) : Bool := decide (20000 * n - 2 * b * h ≤ 10000) && decide (-10000 < 20000 * n - 2 * b * h)
end Go.Proofs.Ytlnhhamfmnjapaa
